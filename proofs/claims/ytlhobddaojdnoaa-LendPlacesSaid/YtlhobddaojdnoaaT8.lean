/- The reference: Where; Slot. -/
import Derived.Test.YtlhobddaojdnoaaT7
namespace Go.Proofs.Ytlhobddaojdnoaa
open Go.RowKit
set_option linter.unusedVariables false

theorem flat_pair {vs : List (Value × Value)} {i : Nat} {p : Value × Value} (h : vs[i]? = some p) : (vs.flatMap fun p => [p.1, p.2])[i * 2]? = some p.1 ∧ (vs.flatMap fun p => [p.1, p.2])[i * 2 + 1]? = some p.2 := by
  induction vs generalizing i with
  | nil => simp at h
  | cons q vs ih =>
    cases i with
    | zero => simp at h; subst h; simp
    | succ i =>
      simp only [List.getElem?_cons_succ] at h
      have := ih h
      rw [show (i + 1) * 2 = i * 2 + 1 + 1 by omega]
      simpa using this
/-- One truth of a list. -/
theorem Outs.at {w : World} {B : Nat} {v : Value} {L : List (List Int × List Bool)} (h : Outs w B v L) {g cap : Nat} (hv : v = .slice (some ⟨g, 0, none⟩) L.length cap) {k : Nat} {x : List Int × List Bool} (hk : L[k]? = some x) :
    ∃ p, w.cell? ⟨g, k * 2, none⟩ = some p.1 ∧ w.cell? ⟨g, k * 2 + 1, none⟩ = some p.2 ∧ OwnT w B x p := by
  obtain ⟨vs, h1, h2, h3⟩ := h
  have hlt := (List.getElem?_eq_some_iff.1 hk).1
  obtain ⟨g', cap', he, _, _, _, _, hc⟩ := own_cell h2 (by omega)
  rw [hv] at he
  simp only [Value.slice.injEq, Option.some.injEq, Addr.mk.injEq, and_true, true_and] at he
  obtain ⟨rfl, rfl⟩ := he
  have hp : vs[k]? = some vs[k] := List.getElem?_eq_getElem (by omega)
  obtain ⟨q1, q2⟩ := flat_pair hp
  exact ⟨vs[k], hc _ _ q1, hc _ _ q2, h3 k x _ hk hp⟩
theorem Outs.some {w : World} {B : Nat} {v : Value} {L : List (List Int × List Bool)} (h : Outs w B v L) (hn : L ≠ []) : ∃ g cap, v = .slice (some ⟨g, 0, none⟩) L.length cap ∧ L.length ≤ cap ∧ cap ≤ maxLen := by
  obtain ⟨vs, h1, h2, h3⟩ := h
  obtain ⟨g, cap, he, _, _, h4, h5, _⟩ := own_cell h2 (List.length_pos_iff.2 hn)
  exact ⟨g, cap, he, h4, h5⟩
theorem setL_snoc (l : List Int) (v : Int) : setL (l ++ [v]) = if v = -1 then setL l else setL l ||| 2 ^ v.toNat := by
  unfold setL
  by_cases h : v = -1
  · simp [h]
  · simp [h, bitsOf_snoc]
theorem outL_snoc (l : List Int) (v : Int) : outL (l ++ [v]) = (outL l || decide (v = -1)) := by simp [outL]
theorem map_take_snoc {α : Type} (f : α → Int) {L : List α} {k : Nat} {x : α} (h : L[k]? = some x) : (L.map f).take (k + 1) = (L.map f).take k ++ [f x] := by
  have hlt := (List.getElem?_eq_some_iff.1 h)
  rw [List.take_succ_eq_append_getElem (by simpa using hlt.1)]
  simp [hlt.2]
theorem truth_at {c : Cab} (hv : c.valid = true) {k : Nat} {x : List Int × List Bool} (h : (truths c)[k]? = some x) : St c x.1 :=
  truth_st hv (r := anyRule) (ls := c.loans) (W := c.wrong) (bs := x.2) (List.mem_of_getElem? h)
theorem st_rng {c : Cab} (hv : c.valid = true) {t : List Int} (h : St c t) {j : Nat} (hj : j < t.length) : -1 ≤ gi t j ∧ gi t j ≤ 5 := by
  have := valid_slots hv
  have h2 := h.bd j hj
  omega
theorem setL_small {c : Cab} (hv : c.valid = true) {j : Nat} (hj : j < c.homes.length) (k : Nat) : setL ((whereL c j).take k) ≤ 1048576 := by
  have : setL ((whereL c j).take k) < 2 ^ 6 := setL_lt (n := 6) (fun y hy => by
    have hy := List.mem_of_mem_take hy
    obtain ⟨x, hx, rfl⟩ := List.mem_map.1 hy
    have hs := truth_st hv (r := anyRule) (ls := c.loans) (W := c.wrong) (t := x.1) (bs := x.2) hx
    have := st_rng hv hs (j := j) (by rw [hs.len]; exact hj)
    simp only [Int.toNat_natCast]
    omega)
  omega
theorem setLs_small {c : Cab} (hv : c.valid = true) (s : Int) (k : Nat) : setL ((slotL c s).take k) ≤ 1048576 := by
  have hh := valid_homes hv
  have : setL ((slotL c s).take k) < 2 ^ 5 := setL_lt (n := 5) (fun y hy => by
    have hy := List.mem_of_mem_take hy
    obtain ⟨x, hx, rfl⟩ := List.mem_map.1 hy
    have hs := truth_st hv (r := anyRule) (ls := c.loans) (W := c.wrong) (t := x.1) (bs := x.2) hx
    have := lies_range hs s
    omega)
  omega
/-! WALKS -/
set_option maxRecDepth 100000 in
set_option maxHeartbeats 2000000 in
theorem rwhereE_any {c : Cab} {ah : Option Addr} {ch : Nat} {al : Option Addr} {cl : Nat} {w : World} (hg : Given w c ah ch al cl) (hb : c.valid = true → backN c.loans ≤ 4) (n : Int) :
    Calls Try.prog 18 #[c.v ah ch al cl, .int .i64 n] w fun e w' => e = .returned (.tuple #[.int .i64 (whereE c n).1, .bool (whereE c n).2.1, .int .i64 (whereE c n).2.2]) ∧ Below w.heap.size w w' := by
    have hb1 : Below w.heap.size w (w.alloc (.cells (c.cells ah ch al cl) 25)) := (Below.refl _ w).alloc (Nat.le_refl _) _
    obtain ⟨W1, hW1⟩ : ∃ W1 : World, W1 = w.alloc (.cells #[.int .i64 c.slots, .slice ah c.homes.length ch, .int .i64 c.wrong, .slice al c.loans.length cl] 25) := ⟨_, rfl⟩
    have hA : W1.heap[w.heap.size]? = some (.cells (c.cells ah ch al cl) 25 (0, 0)) := by rw [hW1]; exact World.alloc_heap_new _ _
    have hb1 : Below w.heap.size w W1 := by rw [hW1]; exact hb1
    have a0 : ∀ o, W1.cell? ⟨w.heap.size, o, none⟩ = (c.cells ah ch al cl)[o]? := fun o => cell_of_heap hA
    have c0 : W1.cell? ⟨w.heap.size, 0, none⟩ = some (.int .i64 c.slots) := a0 0
    have c1 : W1.cell? ⟨w.heap.size, 1, none⟩ = some (.slice ah c.homes.length ch) := a0 1
    have c2 : W1.cell? ⟨w.heap.size, 2, none⟩ = some (.int .i64 c.wrong) := a0 2
    have c3 : W1.cell? ⟨w.heap.size, 3, none⟩ = some (.slice al c.loans.length cl) := a0 3
    have HG1 : Hid (Given W1 c ah ch al cl) := hg.mono hb1
    have HB1 := Lib.hid hb1
    have HW1 := Lib.hid hW1
    have KP : Hid (∀ w', Below W1.heap.size W1 w' → (w'.cell? ⟨w.heap.size, 0, none⟩ = some (.int .i64 c.slots) ∧ w'.cell? ⟨w.heap.size, 1, none⟩ = some (.slice ah c.homes.length ch) ∧ w'.cell? ⟨w.heap.size, 2, none⟩ = some (.int .i64 c.wrong) ∧ w'.cell? ⟨w.heap.size, 3, none⟩ = some (.slice al c.loans.length cl) ∧ Below W1.heap.size W1 w')) :=
      fun w' h => ⟨cell_stays h c0, cell_stays h c1, cell_stays h c2, cell_stays h c3, h⟩
    have hn16 := hg.hh
    have HBK := Lib.hid hb
    clear hW1 hb1 hA a0 c0 c1 c2 c3 hg hb
    by_cases h0 : openE c (c.card n) = 0
    · have hq : (openE c (c.card n) == 0) = true := by simp [h0]
      have hq' : (openE c (c.card n) != 0) = false := by simp [h0]
      have H0 := Lib.hid h0
      obtain ⟨hv, hcard, hT⟩ := openE_zero h0
      obtain ⟨j, hj1, hj⟩ := card_in (c := c) (l := ⟨0, n, 0, 0⟩) hcard
      simp only at hj1
      subst hj1
      have HV := Lib.hid hv
      have HT0 : Hid (truths c ≠ []) := hT
      have HVS : Hid (1 ≤ c.slots ∧ c.slots ≤ 6) := valid_slots hv
      have hE : Hid (whereE c j = ((setL (whereL c j) : Int), outL (whereL c j), 0)) := where_yes hv hT hcard
      have hnh := valid_homes hv
      clear hv hT hcard
      clear h0
      go_enter Try.func18, Try.ntmps18
      go_wp2_with fail
      have hW1 := HW1.out
      rw [← hW1]
      clear hW1
      go_region_held3 (fun w' => w'.cell? ⟨w.heap.size, 0, none⟩ = some (.int .i64 c.slots) ∧ w'.cell? ⟨w.heap.size, 1, none⟩ = some (.slice ah c.homes.length ch) ∧ w'.cell? ⟨w.heap.size, 2, none⟩ = some (.int .i64 c.wrong) ∧ w'.cell? ⟨w.heap.size, 3, none⟩ = some (.slice al c.loans.length cl) ∧ Below W1.heap.size W1 w')
        (first | exact KP.out _ S4 | exact KP.out _ S3 | exact KP.out _ (Below.refl _ W1).drew)
        (first
          | (go_at_call 56; have C56 := rcard_any (c := c) (ah := ah) (ch := ch) (al := al) (cl := cl) (j : Int) W1.drew hn16; (with_reducible refine C56.mono ?_); clear C56; rintro e w3 ⟨rfl, hb3⟩; have S3 : Below W1.heap.size W1 w3 := bst ((Below.refl _ W1).drew) hb3)
          | (go_at_call 55; have C55 := ropen_any (HG1.out.mono S3) HBK.out (c.card (j : Int)); (with_reducible refine C55.mono ?_); clear C55; rintro e w4 ⟨v, rfl, hO, hb4⟩; have S4 : Below W1.heap.size W1 w4 := bst S3 hb4; have HO4 := Lib.hid (And.intro S3 (And.intro S4 hO)); clear hO))
      obtain ⟨S3, S4, hO⟩ := HO4.out
      have hO := hO H0.out
      obtain ⟨g, cap, rfl, hcap, hmax⟩ := hO.some HT0.out
      have HO := Lib.hid hO
      have HS := Lib.hid (And.intro S3 S4)
      have hTl := truths_count (c := c) HVS.out.2 (HBK.out HV.out)
      clear S3 S4 hO hb3 hb4
      go_wp2_with fail
      go_loop [9, 10, 11] (fun s o i => ∃ (k z : Nat) (b : Bool), k ≤ (truths c).length ∧ i = .int .i64 k ∧ s = .int .i64 z ∧ o = .bool b ∧ Hid (z = setL ((whereL c j).take k) ∧ b = outL ((whereL c j).take k)) ∧ z ≤ 1048576) (fun _ _ i => (truths c).length - (intOf i).toNat)
      case atStart => exact ⟨0, 0, false, by omega, rfl, rfl, rfl, ⟨rfl, rfl⟩, by omega⟩
      case round =>
        obtain ⟨k, z, b, hk, rfl, rfl, rfl, HZ, hz⟩ := hrel
        by_cases hlt : k < (truths c).length
        · obtain ⟨x, hx⟩ : ∃ x, (truths c)[k]? = some x := ⟨_, List.getElem?_eq_getElem hlt⟩
          obtain ⟨p, q1, q2, hp⟩ := HO.out.at rfl hx
          have hst := truth_at HV.out hx
          obtain ⟨a, cp, hpa, hpi⟩ := own_ints hp.1 rfl
          rw [hpa] at q1
          obtain ⟨ab, ao, rfl, ac⟩ := hpi j (by rw [hst.len]; exact hj)
          have hr := st_rng HV.out hst (j := j) (by rw [hst.len]; exact hj)
          have hxl : x.1.length = c.homes.length := hst.len
          have hjx : j < x.1.length := by omega
          have HSN : Hid ((whereL c j).take (k + 1) = (whereL c j).take k ++ [gi x.1 j]) := by
            have := map_take_snoc (fun y : List Int × List Bool => gi y.1 j) hx
            rw [Hid, whereL, Int.toNat_natCast]
            exact this
          have hzs := setL_small HV.out hj (k + 1)
          have HX := Lib.hid (And.intro hx hxl)
          clear hx hp hst hpa hpi q2 hxl
          by_cases hg : gi x.1 j = -1
          · have hgb : (gi x.1 j == -1) = true := by simp [hg]
            have hG := Lib.hid hg
            clear hg hzs
            go_wp2_with fail
            go_round
            case rel => exact ⟨k + 1, z, true, by omega, by go_num, rfl, rfl, by rw [Hid, HSN.out, setL_snoc, outL_snoc, if_pos hG.out]; exact ⟨HZ.out.1, by simp [hG.out]⟩, hz⟩
            case measure => simp [intOf]; omega
          · have hgb : (gi x.1 j == -1) = false := by simpa using hg
            obtain ⟨sn, hsn⟩ : ∃ sn : Nat, gi x.1 j = sn := ⟨(gi x.1 j).toNat, by omega⟩
            have hs20 : sn ≤ 20 := by omega
            rw [hsn] at hgb ac
            rw [HSN.out, setL_snoc, if_neg hg, hsn, Int.toNat_natCast, ← HZ.out.1] at hzs
            have hG := Lib.hid (And.intro hg hsn)
            clear hg hsn hr
            go_wp2_with ((go_at_call 57; refine (setWith_any z sn hz hs20 _).mono ?_; rintro e w' ⟨rfl, rfl⟩))
            go_round
            case rel => exact ⟨k + 1, z ||| 2 ^ sn, b, by omega, by go_num, rfl, rfl, by rw [Hid, HSN.out, setL_snoc, outL_snoc, if_neg hG.out.1, hG.out.2, Int.toNat_natCast]; exact ⟨by rw [HZ.out.1], by rw [HZ.out.2]; have := hG.out.1; rw [hG.out.2] at this; simp [this]⟩, hzs⟩
            case measure => simp [intOf]; omega
        · obtain rfl : k = (truths c).length := by omega
          go_wp2_with fail
          go_ret3
          refine ⟨?_, bst HB1.out HS.out.2⟩
          have e : (whereL c j).take (truths c).length = whereL c j := List.take_of_length_le (by simp [whereL])
          rw [hE.out, HZ.out.1, HZ.out.2, e]
          rfl
    · have hq : (openE c (c.card n) == 0) = false := by simpa using h0
      have hq' : (openE c (c.card n) != 0) = true := by simpa using h0
      have hE : Hid (whereE c n = (0, false, openE c (c.card n))) := by
        unfold Hid whereE
        simp only [h0, if_false]
      clear h0
      go_enter Try.func18, Try.ntmps18
      go_wp2_with fail
      have hW1 := HW1.out
      rw [← hW1]
      clear hW1
      go_region_held3 (fun w' => w'.cell? ⟨w.heap.size, 0, none⟩ = some (.int .i64 c.slots) ∧ w'.cell? ⟨w.heap.size, 1, none⟩ = some (.slice ah c.homes.length ch) ∧ w'.cell? ⟨w.heap.size, 2, none⟩ = some (.int .i64 c.wrong) ∧ w'.cell? ⟨w.heap.size, 3, none⟩ = some (.slice al c.loans.length cl) ∧ Below W1.heap.size W1 w')
        (first | exact KP.out _ S4 | exact KP.out _ S3 | exact KP.out _ (Below.refl _ W1).drew)
        (first
          | (go_at_call 56; have C56 := rcard_any (c := c) (ah := ah) (ch := ch) (al := al) (cl := cl) n W1.drew hn16; (with_reducible refine C56.mono ?_); clear C56; rintro e w3 ⟨rfl, hb3⟩; have S3 : Below W1.heap.size W1 w3 := bst ((Below.refl _ W1).drew) hb3)
          | (go_at_call 55; have C55 := ropen_any (HG1.out.mono S3) HBK.out (c.card n); (with_reducible refine C55.mono ?_); clear C55; rintro e w4 ⟨v, rfl, hO, hb4⟩; have S4 : Below W1.heap.size W1 w4 := bst S3 hb4; have HO4 := Lib.hid (And.intro S3 (And.intro S4 hO)); clear hO))
      go_wp2_with fail
      go_ret3
      exact ⟨by rw [hE.out]; rfl, bst HB1.out HO4.out.2.1⟩
def slotB (c : Cab) (n : Int) : Bool := if c.valid = true then c.slotOf n else inR n 0 (wrap64 (c.slots - 1))
theorem slotB_open (c : Cab) (n : Int) : openE c (slotB c n) = openE c (c.slotOf n) := by
  unfold openE slotB
  cases hv : c.valid <;> simp
theorem slotB_any (n : Int) {c : Cab} {ah : Option Addr} {ch : Nat} {al : Option Addr} {cl : Nat} (w : World) :
    Calls Try.prog 62 #[c.v ah ch al cl, .int .i64 n] w fun e w' => e = .returned (.bool (slotB c n)) ∧ Below w.heap.size w w' := by
  unfold slotB
  cases hv : c.valid with
  | true =>
    have := valid_slots hv
    rw [if_pos rfl]
    exact rslot_any n w ⟨by omega, by omega⟩
  | false =>
    rw [if_neg (by simp)]
    clear hv
    go_enter Try.func62, Try.ntmps62
    go_wp2_with (go_at_call 78; refine (in_any _ _ _ _).mono ?_; rintro e w' ⟨rfl, rfl⟩)
    go_ret
    exact ⟨rfl, (Below.refl _ w).alloc (Nat.le_refl _) _⟩
set_option maxRecDepth 100000 in
set_option maxHeartbeats 2000000 in
theorem rslotE_any {c : Cab} {ah : Option Addr} {ch : Nat} {al : Option Addr} {cl : Nat} {w : World} (hg : Given w c ah ch al cl) (hb : c.valid = true → backN c.loans ≤ 4) (n : Int) :
    Calls Try.prog 20 #[c.v ah ch al cl, .int .i64 n] w fun e w' => e = .returned (.tuple #[.int .i64 (slotE c n).1, .bool (slotE c n).2.1, .int .i64 (slotE c n).2.2]) ∧ Below w.heap.size w w' := by
    have hb1 : Below w.heap.size w (w.alloc (.cells (c.cells ah ch al cl) 25)) := (Below.refl _ w).alloc (Nat.le_refl _) _
    obtain ⟨W1, hW1⟩ : ∃ W1 : World, W1 = w.alloc (.cells #[.int .i64 c.slots, .slice ah c.homes.length ch, .int .i64 c.wrong, .slice al c.loans.length cl] 25) := ⟨_, rfl⟩
    have hA : W1.heap[w.heap.size]? = some (.cells (c.cells ah ch al cl) 25 (0, 0)) := by rw [hW1]; exact World.alloc_heap_new _ _
    have hb1 : Below w.heap.size w W1 := by rw [hW1]; exact hb1
    have a0 : ∀ o, W1.cell? ⟨w.heap.size, o, none⟩ = (c.cells ah ch al cl)[o]? := fun o => cell_of_heap hA
    have c0 : W1.cell? ⟨w.heap.size, 0, none⟩ = some (.int .i64 c.slots) := a0 0
    have c1 : W1.cell? ⟨w.heap.size, 1, none⟩ = some (.slice ah c.homes.length ch) := a0 1
    have c2 : W1.cell? ⟨w.heap.size, 2, none⟩ = some (.int .i64 c.wrong) := a0 2
    have c3 : W1.cell? ⟨w.heap.size, 3, none⟩ = some (.slice al c.loans.length cl) := a0 3
    have HG1 : Hid (Given W1 c ah ch al cl) := hg.mono hb1
    have HB1 := Lib.hid hb1
    have HW1 := Lib.hid hW1
    have KP : Hid (∀ w', Below W1.heap.size W1 w' → (w'.cell? ⟨w.heap.size, 0, none⟩ = some (.int .i64 c.slots) ∧ w'.cell? ⟨w.heap.size, 1, none⟩ = some (.slice ah c.homes.length ch) ∧ w'.cell? ⟨w.heap.size, 2, none⟩ = some (.int .i64 c.wrong) ∧ w'.cell? ⟨w.heap.size, 3, none⟩ = some (.slice al c.loans.length cl) ∧ Below W1.heap.size W1 w')) :=
      fun w' h => ⟨cell_stays h c0, cell_stays h c1, cell_stays h c2, cell_stays h c3, h⟩
    have hn16 := hg.hh
    have HBK := Lib.hid hb
    clear hW1 hb1 hA a0 c0 c1 c2 c3 hg hb
    by_cases h0 : openE c (slotB c n) = 0
    · have hq : (openE c (slotB c n) == 0) = true := by simp [h0]
      have hq' : (openE c (slotB c n) != 0) = false := by simp [h0]
      have H0 := Lib.hid h0
      rw [slotB_open] at h0
      obtain ⟨hv, hcard, hT⟩ := openE_zero h0
      have HV := Lib.hid hv
      have HT0 : Hid (truths c ≠ []) := hT
      have HVS : Hid (1 ≤ c.slots ∧ c.slots ≤ 6) := valid_slots hv
      have hE : Hid (slotE c n = ((setL (slotL c n) : Int), outL (slotL c n), 0)) := slot_yes hv hT hcard
      have hnh := valid_homes hv
      clear hv hT hcard
      clear h0
      go_enter Try.func20, Try.ntmps20
      go_wp2_with fail
      have hW1 := HW1.out
      rw [← hW1]
      clear hW1
      go_region_held3 (fun w' => w'.cell? ⟨w.heap.size, 0, none⟩ = some (.int .i64 c.slots) ∧ w'.cell? ⟨w.heap.size, 1, none⟩ = some (.slice ah c.homes.length ch) ∧ w'.cell? ⟨w.heap.size, 2, none⟩ = some (.int .i64 c.wrong) ∧ w'.cell? ⟨w.heap.size, 3, none⟩ = some (.slice al c.loans.length cl) ∧ Below W1.heap.size W1 w')
        (first | exact KP.out _ S4 | exact KP.out _ S3 | exact KP.out _ (Below.refl _ W1).drew)
        (first
          | (go_at_call 62; have C62 := slotB_any (c := c) (ah := ah) (ch := ch) (al := al) (cl := cl) n W1.drew; (with_reducible refine C62.mono ?_); clear C62; rintro e w3 ⟨rfl, hb3⟩; have S3 : Below W1.heap.size W1 w3 := bst ((Below.refl _ W1).drew) hb3)
          | (go_at_call 55; have C55 := ropen_any (HG1.out.mono S3) HBK.out (slotB c n); (with_reducible refine C55.mono ?_); clear C55; rintro e w4 ⟨v, rfl, hO, hb4⟩; have S4 : Below W1.heap.size W1 w4 := bst S3 hb4; have HO4 := Lib.hid (And.intro S3 (And.intro S4 hO)); clear hO))
      obtain ⟨S3, S4, hO⟩ := HO4.out
      have hO := hO H0.out
      obtain ⟨g, cap, rfl, hcap, hmax⟩ := hO.some HT0.out
      have HO := Lib.hid hO
      have HS := Lib.hid (And.intro S3 S4)
      have hTl := truths_count (c := c) HVS.out.2 (HBK.out HV.out)
      clear S3 S4 hO hb3 hb4
      go_wp2_with fail
      go_loopw [9, 10, 11] (fun s o i wr => ∃ (k z : Nat) (b : Bool), k ≤ (truths c).length ∧ i = .int .i64 k ∧ s = .int .i64 z ∧ o = .bool b ∧ Hid (z = setL ((slotL c n).take k) ∧ b = outL ((slotL c n).take k)) ∧ z ≤ 1048576 ∧ Below w4.heap.size w4 wr) (fun _ _ i _ => (truths c).length - (intOf i).toNat)
      case atStart => exact ⟨0, 0, false, by omega, rfl, rfl, rfl, ⟨rfl, rfl⟩, by omega, Below.refl _ _⟩
      case round =>
        obtain ⟨k, z, b, hk, rfl, rfl, rfl, HZ, hz, hbr⟩ := hrel
        by_cases hlt : k < (truths c).length
        · obtain ⟨x, hx⟩ : ∃ x, (truths c)[k]? = some x := ⟨_, List.getElem?_eq_getElem hlt⟩
          obtain ⟨p, q1, q2, hp⟩ := (HO.out.below hbr).at rfl hx
          have hst := truth_at HV.out hx
          have hIT := hp.is
          have hx5 : x.1.length ≤ 5 := by rw [hst.len]; exact hnh
          have hr := lies_range hst n
          have HSN : Hid ((slotL c n).take (k + 1) = (slotL c n).take k ++ [lies x.1 n]) := by
            have := map_take_snoc (fun y : List Int × List Bool => lies y.1 n) hx
            rw [Hid, slotL]
            exact this
          have hzs := setLs_small HV.out n (k + 1)
          have HX := Lib.hid hx
          clear hx hp hst
          by_cases hg : lies x.1 n = -1
          · have hgb : (lies x.1 n == -1) = true := by simp [hg]
            have hG := Lib.hid hg
            clear hg hzs
            go_wp2_with fail
            refine (rlies_any hIT hx5 n).mono ?_
            rintro e w6 ⟨rfl, hb6⟩
            go_wp2_with fail
            go_roundw
            case rel => exact ⟨k + 1, z, true, by omega, by go_num, rfl, rfl, by rw [Hid, HSN.out, setL_snoc, outL_snoc, if_pos hG.out]; exact ⟨HZ.out.1, by simp [hG.out]⟩, hz, hbr.trans (hb6.mono hbr.size)⟩
            case measure => simp [intOf]; omega
          · have hgb : (lies x.1 n == -1) = false := by simpa using hg
            obtain ⟨sn, hsn⟩ : ∃ sn : Nat, lies x.1 n = sn := ⟨(lies x.1 n).toNat, by omega⟩
            have hs20 : sn ≤ 20 := by omega
            rw [hsn] at hgb
            rw [HSN.out, setL_snoc, if_neg hg, hsn, Int.toNat_natCast, ← HZ.out.1] at hzs
            have hG := Lib.hid (And.intro hg hsn)
            have C41 := fun (w' : World) (h : IsTruth w' x p.1 p.2) => rlies_any h hx5 n
            rw [hsn] at C41
            have HC := Lib.hid C41
            clear hg hsn hr C41
            go_wp2_with fail
            refine (HC.out _ hIT).mono ?_
            rintro e w6 ⟨rfl, hb6⟩
            have q1 := cell_stays hb6 q1
            have q2 := cell_stays hb6 q2
            have hIT2 := hIT.mono hb6
            go_wp2_with fail
            refine (HC.out _ hIT2).mono ?_
            rintro e w7 ⟨rfl, hb7⟩
            go_wp2_with ((go_at_call 57; refine (setWith_any z sn hz hs20 _).mono ?_; rintro e w' ⟨rfl, rfl⟩))
            go_roundw
            case rel => exact ⟨k + 1, z ||| 2 ^ sn, b, by omega, by go_num, rfl, rfl, by rw [Hid, HSN.out, setL_snoc, outL_snoc, if_neg hG.out.1, hG.out.2, Int.toNat_natCast]; exact ⟨by rw [HZ.out.1], by rw [HZ.out.2]; have := hG.out.1; rw [hG.out.2] at this; simp [this]⟩, hzs, hbr.trans ((bst hb6 hb7).mono hbr.size)⟩
            case measure => simp [intOf]; omega
        · obtain rfl : k = (truths c).length := by omega
          go_wp2_with fail
          go_ret3
          refine ⟨?_, bst HB1.out (bst HS.out.2 hbr)⟩
          have e : (slotL c n).take (truths c).length = slotL c n := List.take_of_length_le (by simp [slotL])
          rw [hE.out, HZ.out.1, HZ.out.2, e]
          rfl
    · have hq : (openE c (slotB c n) == 0) = false := by simpa using h0
      have hq' : (openE c (slotB c n) != 0) = true := by simpa using h0
      have hE : Hid (slotE c n = (0, false, openE c (slotB c n))) := by
        unfold Hid slotE
        have h1 := h0
        rw [slotB_open] at h1 ⊢
        simp only [h1, if_false]
      clear h0
      go_enter Try.func20, Try.ntmps20
      go_wp2_with fail
      have hW1 := HW1.out
      rw [← hW1]
      clear hW1
      go_region_held3 (fun w' => w'.cell? ⟨w.heap.size, 0, none⟩ = some (.int .i64 c.slots) ∧ w'.cell? ⟨w.heap.size, 1, none⟩ = some (.slice ah c.homes.length ch) ∧ w'.cell? ⟨w.heap.size, 2, none⟩ = some (.int .i64 c.wrong) ∧ w'.cell? ⟨w.heap.size, 3, none⟩ = some (.slice al c.loans.length cl) ∧ Below W1.heap.size W1 w')
        (first | exact KP.out _ S4 | exact KP.out _ S3 | exact KP.out _ (Below.refl _ W1).drew)
        (first
          | (go_at_call 62; have C62 := slotB_any (c := c) (ah := ah) (ch := ch) (al := al) (cl := cl) n W1.drew; (with_reducible refine C62.mono ?_); clear C62; rintro e w3 ⟨rfl, hb3⟩; have S3 : Below W1.heap.size W1 w3 := bst ((Below.refl _ W1).drew) hb3)
          | (go_at_call 55; have C55 := ropen_any (HG1.out.mono S3) HBK.out (slotB c n); (with_reducible refine C55.mono ?_); clear C55; rintro e w4 ⟨v, rfl, hO, hb4⟩; have S4 : Below W1.heap.size W1 w4 := bst S3 hb4; have HO4 := Lib.hid (And.intro S3 (And.intro S4 hO)); clear hO))
      go_wp2_with fail
      go_ret3
      exact ⟨by rw [hE.out]; rfl, bst HB1.out HO4.out.2.1⟩
end Go.Proofs.Ytlhobddaojdnoaa
