/- The reference's small loops over ways. -/
import Derived.Test.YtnfhlbmapfoifaaR2
import Derived.Test.YtnfhlbmapfoifaaW5
namespace Go.Proofs.Ytnfhlbmapfoifaa
open Go.RowKit
set_option linter.unusedVariables false

theorem orig_step {l : List Int} {k : Nat} (hk : k < l.length) : origN (l.take (k + 1)) = origN (l.take k) + (if gi l k = -1 then 1 else 0) := by
  have h : gi l k = l[k] := by simp [gi, hk]
  rw [List.take_succ_eq_append_getElem hk, h]
  unfold origN
  rw [List.countP_append]
  by_cases h1 : l[k] = -1 <;> simp [h1]
theorem orig_le (l : List Int) : origN l ≤ l.length := List.countP_le_length
theorem originals_ref {l : List Int} {a : Option Addr} {cap : Nat} {w : World} (ha : IsInts w a l) (hn : l.length ≤ 16) :
    Calls Try.prog 43 #[.slice a l.length cap] w fun e w' => e = .returned (.int .i64 (origN l)) ∧ w = w' := by
  go_enter Try.func43, Try.ntmps43
  go_wp2
  go_loop [3, 4] (fun x i => ∃ k c : Nat, k ≤ l.length ∧ i = .int .i64 k ∧ x = .int .i64 c ∧ c ≤ k ∧ Hid (c = origN (l.take k))) (fun x i => l.length - (intOf i).toNat)
  case atStart => exact ⟨0, 0, by omega, rfl, rfl, by omega, by simp [Hid, origN]⟩
  case round =>
    obtain ⟨k, c, hk, rfl, rfl, hc, HC⟩ := hrel
    by_cases hlt : k < l.length
    · obtain ⟨b, off, rfl, l0⟩ := ha k hlt
      have HS := Lib.hid (orig_step hlt)
      by_cases h1 : gi l k = -1
      · rw [h1] at l0
        have HS2 : Hid (c + 1 = origN (l.take (k + 1))) := by rw [Hid, HS.out, if_pos h1, ← HC.out]
        clear HS h1
        go_wp2
        go_round
        case rel => exact ⟨k + 1, c + 1, by omega, by go_num, by go_num, by omega, HS2⟩
        case measure => simp [intOf]; omega
      · have HS2 : Hid (c = origN (l.take (k + 1))) := by rw [Hid, HS.out, if_neg h1, ← HC.out]; rfl
        clear HS
        go_wp2
        go_round
        case rel => exact ⟨k + 1, c, by omega, by go_num, rfl, by omega, HS2⟩
        case measure => simp [intOf]; omega
    · go_wp2
      go_ret
      refine ⟨ret_int ?_, rfl⟩
      rw [HC.out, List.take_of_length_le (by omega)]
set_option maxHeartbeats 1000000 in
theorem comes_ref {n : Nat} {wl : List Int} (hw : GoodW n wl) (hn : n ≤ 5) (hr : roundB wl = false) {card frm : Nat} (hc : card < n) (hf : frm < n) {a : Option Addr} {cap : Nat} {w : World} (ha : IsInts w a wl) :
    Calls Try.prog 61 #[.slice a wl.length cap, .int .i64 card, .int .i64 frm] w fun e w' => e = .returned (.bool (comesB wl card frm)) ∧ w = w' := by
  have HL := Lib.hid hw.1
  have HR := Lib.hid (roundB_false.1 hr card (by rw [hw.1]; exact hc))
  have hl5 : wl.length ≤ 5 := by rw [hw.1]; exact hn
  have hcl : card < wl.length := by rw [hw.1]; exact hc
  obtain ⟨b, off, rfl, hc0⟩ := ha card hcl
  clear hr
  go_enter Try.func61, Try.ntmps61
  go_wp2
  clear hc0
  go_loopg [7] (wl.length + 1) (fun f q wr => ∃ (u : Int) (m : Nat), q = .int .i64 u ∧ Hid (u = upW wl m (card : Int)) ∧ f + m = wl.length + 2 ∧ Hid (comesB wl card frm = comesF wl frm f u) ∧ -1 ≤ u ∧ u < n ∧ w = wr)
  case atStart => exact ⟨gi wl card, 1, rfl, by simp [Hid, upW], rfl, rfl, (hw.gi hc).1, (hw.gi hc).2, rfl⟩
  case round =>
    obtain ⟨u, m, rfl, HU, hfm, HC, hu0, hu1, rfl⟩ := hrel
    by_cases h1 : u = -1
    · subst h1
      have HE := Lib.hid (comesF_none wl frm gk)
      go_wp2
      go_ret
      exact ⟨ret_bool (by rw [HC.out, HE.out]), rfl⟩
    · obtain ⟨f, rfl⟩ : ∃ f, gk = f + 1 := ⟨gk - 1, by
        have : gk ≠ 0 := fun e => h1 (by
          have := upW_stays HR.out 2
          rw [HU.out, show m = wl.length + 2 by omega]; exact this)
        omega⟩
      obtain ⟨un, rfl⟩ := Int.eq_ofNat_of_zero_le (show 0 ≤ u by omega)
      have hun : un < wl.length := by have := HL.out; omega
      have hb : ((un : Int) != -1) = true := by simp
      have HN := Lib.hid h1
      by_cases h2 : un = frm
      · subst h2
        have HH := Lib.hid (comesF_hit wl (frm := (un : Int)) f (by omega))
        clear h1 hfm
        go_wp2
        go_ret
        exact ⟨ret_bool (by rw [HC.out, HH.out]), rfl⟩
      · have hb2 : ((un : Int) == (frm : Int)) = false := by simp; omega
        have HH := Lib.hid (comesF_on wl (frm := (frm : Int)) f h1 (by omega))
        obtain ⟨b', off', he, hc1⟩ := ha un hun
        obtain ⟨rfl, rfl⟩ : b = b' ∧ off = off' := by simpa using he
        have hgi := hw.gi (k := un) (by omega)
        have HS : Hid (upW wl (m + 1) (card : Int) = gi wl un) := by rw [Hid, upW_snoc, ← HU.out, if_neg HN.out]; rfl
        have HF := Lib.hid hfm
        clear h1 he hfm
        go_wp2
        go_roundg f
        case rel => exact ⟨gi wl un, m + 1, rfl, HS.out.symm, by have := HF.out; omega, by rw [Hid, HC.out, HH.out]; rfl, hgi.1, hgi.2, rfl⟩
        case measure => omega
theorem marks_valid {p : Prs} (hv : p.valid = true) {k : Nat} (hk : k < p.cards.length) : 0 ≤ (gp p.cards k).marks ∧ (gp p.cards k).marks ≤ 1023 := by
  unfold Prs.valid at hv
  simp only [Bool.and_eq_true] at hv
  have h := List.all_eq_true.1 hv.1.1.2 (gp p.cards k) (by
    have : gp p.cards k = p.cards[k] := by simp [gp, hk]
    rw [this]; exact List.getElem_mem hk)
  unfold Prt.ok inR at h
  simp only [Bool.and_eq_true, decide_eq_true_eq] at h
  exact h.2
theorem all_false {k n : Nat} {f : Nat → Bool} (hk : k < n) (h : f k = false) : (List.range n).all f = false := List.all_eq_false.2 ⟨k, List.mem_range.2 hk, by simp [h]⟩
theorem all_true {n : Nat} {f : Nat → Bool} (h : ∀ j, j < n → f j = true) : (List.range n).all f = true := List.all_eq_true.2 fun j hj => h j (List.mem_range.1 hj)
set_option maxRecDepth 100000 in
set_option maxHeartbeats 1000000 in
theorem marked_ref {p : Prs} {a : Option Addr} {cap : Nat} {w : World} (ha : IsPrts w a p.cards) (hv : p.valid = true) {card frm : Nat} (hn : p.cards.length ≤ 5) (hc : card < p.cards.length) (hf : frm < p.cards.length) :
    Calls Try.prog 88 #[p.v a cap, .int .i64 card, .int .i64 frm] w fun e w' => e = .returned (.bool (markedB p card frm)) ∧ Below w.heap.size w w' := by
  have hb0 : Below w.heap.size w (w.alloc (.cells (p.cells a cap) 26)) := (Below.refl _ w).alloc (Nat.le_refl _) _
  have q0 := World.alloc_heap_new w (.cells (p.cells a cap) 26)
  have HA := ha.mono hb0
  obtain ⟨b1, o1, rfl, _, _, _, _, m1⟩ := HA frm hf
  obtain ⟨b2, o2, h2, _, _, _, _, m2⟩ := HA card hc
  obtain ⟨rfl, rfl⟩ : b1 = b2 ∧ o1 = o2 := by simpa using h2
  have k0 : (w.alloc (.cells (p.cells (some ⟨b1, o1, none⟩) cap) 26)).cell? ⟨w.heap.size, 0, none⟩ = some (.slice (some ⟨b1, o1, none⟩) p.cards.length cap) := by rw [cell_of_heap q0]; rfl
  obtain ⟨f0, f1⟩ := marks_valid hv hf
  obtain ⟨c0, c1⟩ := marks_valid hv hc
  have HM : Hid (markedB p card frm = (List.range 10).all fun d => !(gp p.cards frm).marks.toNat.testBit d || (gp p.cards card).marks.toNat.testBit d) := rfl
  obtain ⟨x, hx⟩ := Int.eq_ofNat_of_zero_le f0
  obtain ⟨y, hy⟩ := Int.eq_ofNat_of_zero_le c0
  rw [hx] at HM m1 f1
  rw [hy] at HM m2 c1
  have hx' : x < 2048 := by omega
  have hy' : y < 2048 := by omega
  clear ha HA h2 q0 f0 f1 c0 c1 hx hy hv
  have HB := Lib.hid hb0
  have HH := Lib.hid rhas_any
  clear hb0
  go_enter Try.func88, Try.ntmps88
  go_wp2_with fail
  revert k0 m1 m2 HB
  generalize w.alloc (.cells (p.cells (some ⟨b1, o1, none⟩) cap) 26) = w0
  intro k0 m1 m2 HB
  go_loop [7] (fun i => ∃ d : Nat, d ≤ 10 ∧ i = .int .i64 d ∧ Hid (∀ j, j < d → (!x.testBit j || y.testBit j) = true)) (fun i => 10 - (intOf i).toNat)
  case atStart => exact ⟨0, by omega, rfl, fun j hj => by omega⟩
  case round =>
    obtain ⟨d, hd, rfl, HK⟩ := hrel
    by_cases hlt : d < 10
    · have HS : Hid ((!x.testBit d || y.testBit d) = true → ∀ j, j < d + 1 → (!x.testBit j || y.testBit j) = true) := fun h j hj => by
        by_cases e : j = d
        · subst e; exact h
        · exact HK.out j (by omega)
      cases h1 : x.testBit d
      · go_wp2_with fail
        refine (HH.out x d hx' (by omega) _).mono ?_
        rintro e w' ⟨rfl, rfl⟩
        rw [h1]
        go_wp2_with fail
        go_round
        case rel => exact ⟨d + 1, by omega, by go_num, HS.out (by simp [h1])⟩
        case measure => simp [intOf]; omega
      · cases h2 : y.testBit d
        · go_wp2_with fail
          refine (HH.out x d hx' (by omega) _).mono ?_
          rintro e w' ⟨rfl, rfl⟩
          rw [h1]
          go_wp2_with fail
          refine (HH.out y d hy' (by omega) _).mono ?_
          rintro e w' ⟨rfl, rfl⟩
          rw [h2]
          go_wp2_with fail
          go_ret
          refine ⟨ret_bool ?_, HB.out⟩
          rw [HM.out]
          exact (all_false hlt (by simp [h1, h2])).symm
        · go_wp2_with fail
          refine (HH.out x d hx' (by omega) _).mono ?_
          rintro e w' ⟨rfl, rfl⟩
          rw [h1]
          go_wp2_with fail
          refine (HH.out y d hy' (by omega) _).mono ?_
          rintro e w' ⟨rfl, rfl⟩
          rw [h2]
          go_wp2_with fail
          go_round
          case rel => exact ⟨d + 1, by omega, by go_num, HS.out (by simp [h2])⟩
          case measure => simp [intOf]; omega
    · go_wp2
      go_ret
      refine ⟨ret_bool ?_, HB.out⟩
      obtain rfl : d = 10 := by omega
      rw [HM.out]
      exact (all_true HK.out).symm
end Go.Proofs.Ytnfhlbmapfoifaa
