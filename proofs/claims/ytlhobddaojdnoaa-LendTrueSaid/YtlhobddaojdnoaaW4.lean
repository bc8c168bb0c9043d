/- Whether a cabinet is valid; a cabinet that is looked at. -/
import Derived.Test.YtlhobddaojdnoaaW3
namespace Go.Proofs.Ytlhobddaojdnoaa
open Go.RowKit

def homeOk (c : Cab) (i : Nat) : Bool := c.slotOf (gi c.homes i) && decide (lies c.homes (gi c.homes i) = (i : Int))
theorem lies_self {l : List Int} {k : Nat} (hk : k < l.length) (h : lies l (gi l k) = (k : Int)) : ∀ j, j < k → gi l j ≠ gi l k := by
  intro j hj he
  unfold lies at h
  have key : ∀ (m : Nat), m ≤ j → liesFrom (l.drop m) (gi l k) m ≤ j := by
    intro m hm
    induction hd : j - m generalizing m with
    | zero =>
      have : m = j := by omega
      subst this
      rw [liesFrom_hit (by omega) he]; omega
    | succ d ih =>
      by_cases hmm : gi l m = gi l k
      · rw [liesFrom_hit (by omega) hmm]; omega
      · rw [liesFrom_miss (by omega) hmm]
        exact ih (m + 1) (by omega) (by omega)
  have := key 0 (by omega)
  simp only [List.drop_zero] at this
  omega
theorem lies_first {l : List Int} {k : Nat} (hk : k < l.length) (hn : ∀ j, j < k → gi l j ≠ gi l k) : lies l (gi l k) = (k : Int) := by
  unfold lies
  have key : ∀ (m : Nat), m ≤ k → liesFrom (l.drop m) (gi l k) m = (k : Int) := by
    intro m hm
    induction hd : k - m generalizing m with
    | zero =>
      have : m = k := by omega
      subst this
      rw [liesFrom_hit hk rfl]
    | succ d ih =>
      rw [liesFrom_miss (by omega) (hn m (by omega))]
      exact ih (m + 1) (by omega) (by omega)
  have := key 0 (by omega)
  simpa using this
theorem gi_eq {l : List Int} {k : Nat} (hk : k < l.length) : gi l k = l[k] := by simp [gi, hk]
theorem homesOk_of {c : Cab} (h : ∀ j, j < c.homes.length → homeOk c j = true) : c.homesOk = true := by
  unfold Cab.homesOk
  simp only [Bool.and_eq_true, decide_eq_true_eq, List.all_eq_true]
  refine ⟨?_, ?_⟩
  · rw [List.nodup_iff_pairwise_ne, List.pairwise_iff_getElem]
    intro i j hi hj hij
    have := h j hj
    simp only [homeOk, Bool.and_eq_true, decide_eq_true_eq] at this
    have h2 := lies_self hj this.2 i hij
    rwa [gi_eq hi, gi_eq hj] at h2
  · intro x hx
    obtain ⟨i, hi, rfl⟩ := List.getElem_of_mem hx
    have := h i hi
    simp only [homeOk, Bool.and_eq_true] at this
    rw [gi_eq hi] at this
    exact this.1
theorem homesOk_not {c : Cab} {k : Nat} (hk : k < c.homes.length) (h : homeOk c k = false) : c.homesOk = false := by
  cases hh : c.homesOk with
  | false => rfl
  | true =>
    unfold Cab.homesOk at hh
    simp only [Bool.and_eq_true, decide_eq_true_eq, List.all_eq_true] at hh
    have h1 : c.slotOf (gi c.homes k) = true := by rw [gi_eq hk]; exact hh.2 _ (by simp)
    have h2 : lies c.homes (gi c.homes k) = (k : Int) := by
      refine lies_first hk (fun j hj he => ?_)
      rw [List.nodup_iff_pairwise_ne, List.pairwise_iff_getElem] at hh
      rw [gi_eq (by omega), gi_eq hk] at he
      exact hh.1 j k (by omega) hk hj he
    simp [homeOk, h1, h2] at h

set_option maxRecDepth 100000 in
set_option maxHeartbeats 2000000 in
theorem isCabinet_no {bc : Nat} {c : Cab} {ah : Option Addr} {ch : Nat} {al : Option Addr} {cl : Nat} {w : World} (hc : CabP w bc c ah ch al cl) (hs : c.sizes = false) (hh : c.homes.length ≤ 16) (hl : c.loans.length ≤ 30) :
    Calls Try.prog 81 #[.pointer (some ⟨bc, 0, none⟩)] w fun e w' => e = .returned (.bool false) ∧ Below w.heap.size w w' := by
  have hbc := lt_of_cell hc.s
  have c0 := hc.s
  have c1 := hc.h
  have c2 := hc.g
  have c3 := hc.l
  have hb : Below w.heap.size w (w.alloc (.cells #[.pointer (some ⟨bc, 0, none⟩)] 64)) := (Below.refl _ w).alloc (Nat.le_refl _) _
  clear hc
  unfold Cab.sizes at hs
  cases h1 : inR c.slots 1 6
  · clear hs
    go_enter Try.func81, Try.ntmps81
    go_wp2_with (go_at_call 84; refine (within_any _ _ _ _).mono ?_; rintro e w' ⟨rfl, rfl⟩; rw [h1])
    go_ret
    exact ⟨rfl, hb⟩
  · by_cases h2 : c.homes.length ≤ 5
    · cases h3 : inR c.wrong 0 12
      · clear hs
        go_enter Try.func81, Try.ntmps81
        go_wp2_with (go_at_call 84; refine (within_any _ _ _ _).mono ?_; rintro e w' ⟨rfl, rfl⟩; first | rw [h1] | rw [h3])
        go_ret
        exact ⟨rfl, hb⟩
      · have h4 : ¬ c.loans.length ≤ 12 := fun h4 => by simp [h1, h2, h3, h4] at hs
        clear hs
        go_enter Try.func81, Try.ntmps81
        go_wp2_with (go_at_call 84; refine (within_any _ _ _ _).mono ?_; rintro e w' ⟨rfl, rfl⟩; first | rw [h1] | rw [h3])
        go_ret
        exact ⟨rfl, hb⟩
    · clear hs
      go_enter Try.func81, Try.ntmps81
      go_wp2_with (go_at_call 84; refine (within_any _ _ _ _).mono ?_; rintro e w' ⟨rfl, rfl⟩; rw [h1])
      go_ret
      exact ⟨rfl, hb⟩

set_option maxRecDepth 100000 in
set_option maxHeartbeats 2000000 in
theorem isCabinet_yes {bc : Nat} {c : Cab} {ah : Option Addr} {ch : Nat} {al : Option Addr} {cl : Nat} {w : World} (hc : CabP w bc c ah ch al cl) (hs : c.sizes = true) :
    Calls Try.prog 81 #[.pointer (some ⟨bc, 0, none⟩)] w fun e w' => e = .returned (.bool c.valid) ∧ Below w.heap.size w w' := by
  have hbc := lt_of_cell hc.s
  have c0 := hc.s
  have c1 := hc.h
  have c2 := hc.g
  have c3 := hc.l
  have hb : Below w.heap.size w (w.alloc (.cells #[.pointer (some ⟨bc, 0, none⟩)] 64)) := (Below.refl _ w).alloc (Nat.le_refl _) _
  have hc1 := hc.mono hb
  have hv : c.valid = (c.homesOk && c.loans.all c.loanOk) := by unfold Cab.valid; rw [hs]; rfl
  have HV := Lib.hid hv
  unfold Cab.sizes at hs
  simp only [Bool.and_eq_true, decide_eq_true_eq] at hs
  obtain ⟨⟨⟨h1, h2⟩, h3⟩, h4⟩ := hs
  have hsl : 0 ≤ c.slots ∧ c.slots ≤ 100 := by unfold inR at h1; simp at h1; omega
  clear hv
  go_enter Try.func81, Try.ntmps81
  go_wp2_with (go_at_call 84; refine (within_any _ _ _ _).mono ?_; rintro e w' ⟨rfl, rfl⟩; first | rw [h1] | rw [h3])
  go_loop [3, 4, 46] (fun _ _ i => ∃ k : Nat, k ≤ c.homes.length ∧ i = .int .i64 k ∧ Hid (∀ j, j < k → homeOk c j = true)) (fun _ _ i => c.homes.length - (intOf i).toNat)
  case atStart => exact ⟨0, by omega, rfl, fun j hj => by omega⟩
  case round =>
    obtain ⟨k, hk, rfl, HA⟩ := hrel
    by_cases hlt : k < c.homes.length
    · have HK := Lib.hid (@homesOk_not c k hlt)
      obtain ⟨b, off, rfl, hcell⟩ := hc.hi k hlt
      have hbb := lt_of_cell hcell
      have hidx := index_any (cap := ch) c.homes (gi c.homes k) hc1.hi (by omega)
      cases hi1 : c.slotOf (gi c.homes k)
      · have hno : Hid (homeOk c k = false) := by unfold Hid homeOk; rw [hi1]; rfl
        go_wp2_with (go_at_call 60; refine (isSlot_any _ hc1 hsl).mono ?_; rintro e w' ⟨rfl, rfl⟩; rw [hi1])
        go_ret
        refine ⟨ret_bool ?_, hb⟩
        rw [HV.out, HK.out hno.out]; rfl
      · by_cases hi2 : lies c.homes (gi c.homes k) = (k : Int)
        · have hyes : Hid (homeOk c k = true) := by unfold Hid homeOk; rw [hi1, hi2]; simp
          have hi3 : (lies c.homes (gi c.homes k) != (k : Int)) = false := by simp [hi2]
          clear hi2
          go_wp2_with (first | (go_at_call 60; refine (isSlot_any _ hc1 hsl).mono ?_; rintro e w' ⟨rfl, rfl⟩; rw [hi1]) | (go_at_call 89; refine hidx.mono ?_; clear hidx; rintro e w' ⟨rfl, rfl⟩))
          go_round
          case rel => exact ⟨k + 1, by omega, by go_num, fun j hj => by
            by_cases e : j = k
            · subst e; exact hyes.out
            · exact HA.out j (by omega)⟩
          case measure => simp [intOf]; omega
        · have hno : Hid (homeOk c k = false) := by unfold Hid homeOk; rw [hi1]; simp [hi2]
          have hi3 : (lies c.homes (gi c.homes k) != (k : Int)) = true := by simp [hi2]
          clear hi2
          go_wp2_with (first | (go_at_call 60; refine (isSlot_any _ hc1 hsl).mono ?_; rintro e w' ⟨rfl, rfl⟩; rw [hi1]) | (go_at_call 89; refine hidx.mono ?_; clear hidx; rintro e w' ⟨rfl, rfl⟩))
          go_ret
          refine ⟨ret_bool ?_, hb⟩
          rw [HV.out, HK.out hno.out]; rfl
    · have hall : Hid (c.homesOk = true) := homesOk_of (fun j hj => HA.out j (by omega))
      go_wp2_with fail
      refine (kinds_any _).mono ?_
      rintro e w2 ⟨⟨_, rfl, ⟨b, rfl, hkk⟩⟩, hb2⟩
      have HK : Hid (IsKinds w2 (.slice (some ⟨b, 0, none⟩) 3 3)) := ⟨b, rfl, hkk⟩
      clear hkk
      have hs2 := hb2.size
      rw [World.size_alloc] at hs2
      have hbb := hb.trans (hb2.mono (by simp))
      have hp2 := cell_stays hb2 (b := w.heap.size) (o := 0) (v := .pointer (some ⟨bc, 0, none⟩)) (by simp)
      have d1 := (hc.mono hbb).l
      have hc2 := Lib.hid (hc.mono hbb)
      have e1 := lt_of_cell hp2
      have e2 := lt_of_cell d1
      have hbn : Below w2.heap.size w2 (w2.alloc (.cells #[.slice (some ⟨b, 0, none⟩) 3 3] 109)) := (Below.refl _ w2).alloc (Nat.le_refl _) _
      go_wp2_with fail
      refine (containsFunc_any (bk := w2.heap.size) (bp := w.heap.size) (by simp) (HK.out.mono hbn) (cell_stays hbn hp2) (hc2.out.mono hbn) (by omega) hsl (by omega)).mono ?_
      rintro e w3 ⟨rfl, hb3⟩
      go_wp2
      go_ret
      refine ⟨ret_bool ?_, (hbb.trans (hbn.mono (by omega))).trans (hb3.mono (by simp; omega))⟩
      rw [HV.out, hall.out]
      simp

theorem isCabinet_any {bc : Nat} {c : Cab} {ah : Option Addr} {ch : Nat} {al : Option Addr} {cl : Nat} {w : World} (hc : CabP w bc c ah ch al cl) (hh : c.homes.length ≤ 16) (hl : c.loans.length ≤ 30) :
    Calls Try.prog 81 #[.pointer (some ⟨bc, 0, none⟩)] w fun e w' => e = .returned (.bool c.valid) ∧ Below w.heap.size w w' := by
  cases hs : c.sizes with
  | true => exact isCabinet_yes hc hs
  | false =>
    have hv : c.valid = false := by unfold Cab.valid; rw [hs]; rfl
    rw [hv]
    exact isCabinet_no hc hs hh hl

/-- A cabinet by value. -/
abbrev Cab.v (c : Cab) (ah : Option Addr) (ch : Nat) (al : Option Addr) (cl : Nat) : Value :=
  .agg #[.int .i64 c.slots, .slice ah c.homes.length ch, .int .i64 c.wrong, .slice al c.loans.length cl]
abbrev Cab.cells (c : Cab) (ah : Option Addr) (ch : Nat) (al : Option Addr) (cl : Nat) : Array Value :=
  #[.int .i64 c.slots, .slice ah c.homes.length ch, .int .i64 c.wrong, .slice al c.loans.length cl]

theorem CabP.of_new {w : World} {c : Cab} {ah : Option Addr} {ch : Nat} {al : Option Addr} {cl : Nat} (hi : IsInts w ah c.homes) (li : IsLoans w al c.loans) (t : TypeId) :
    CabP (w.alloc (.cells (c.cells ah ch al cl) t)) w.heap.size c ah ch al cl := by
  have hb : Below w.heap.size w (w.alloc (.cells (c.cells ah ch al cl) t)) := (Below.refl _ w).alloc (Nat.le_refl _) _
  exact ⟨by simp, by simp, by simp, by simp, hi.mono hb, li.mono hb⟩

theorem look_yes {c : Cab} {ah : Option Addr} {ch : Nat} {al : Option Addr} {cl : Nat} {w : World} (hi : IsInts w ah c.homes) (li : IsLoans w al c.loans) (hh : c.homes.length ≤ 16) (hl : c.loans.length ≤ 30) (hv : c.valid = true) :
    Calls Try.prog 48 #[c.v ah ch al cl] w fun e w' => ∃ bc, e = .returned (.pointer (some ⟨bc, 0, none⟩)) ∧ w.heap.size ≤ bc ∧ CabP w' bc c ah ch al cl ∧ Below w.heap.size w w' := by
  have h1 : Below w.heap.size w (w.alloc (.cells (c.cells ah ch al cl) 25)) := (Below.refl _ w).alloc (Nat.le_refl _) _
  have h2 := CabP.of_new (ch := ch) (cl := cl) (hi.mono h1) (li.mono h1) 67
  have h3 : Below w.heap.size w ((w.alloc (.cells (c.cells ah ch al cl) 25)).alloc (.cells (c.cells ah ch al cl) 67)) := h1.alloc (by simp) _
  rw [World.size_alloc] at h2
  have H2 := Lib.hid h2
  clear h2
  go_enter Try.func48, Try.ntmps48
  go_wp2_with fail
  refine (isCabinet_any H2.out hh hl).mono ?_
  rintro e w3 ⟨rfl, hb3⟩
  rw [hv]
  go_wp2_with (go_at_call 66; refine (need_yes _ _).mono ?_; rintro e w' ⟨rfl, rfl⟩)
  go_ret
  exact ⟨_, rfl, by omega, H2.out.mono hb3, h3.trans (hb3.mono (by simp; omega))⟩

theorem look_no {c : Cab} {ah : Option Addr} {ch : Nat} {al : Option Addr} {cl : Nat} {w : World} (hi : IsInts w ah c.homes) (li : IsLoans w al c.loans) (hh : c.homes.length ≤ 16) (hl : c.loans.length ≤ 30) (hv : c.valid = false) :
    Calls Try.prog 48 #[c.v ah ch al cl] w fun e w' => e = .panicked [{ v := .iface 105 (.agg #[.int .i64 1]), recovered := false }] ∧ Below w.heap.size w w' := by
  have h1 : Below w.heap.size w (w.alloc (.cells (c.cells ah ch al cl) 25)) := (Below.refl _ w).alloc (Nat.le_refl _) _
  have h2 := CabP.of_new (ch := ch) (cl := cl) (hi.mono h1) (li.mono h1) 67
  have h3 : Below w.heap.size w ((w.alloc (.cells (c.cells ah ch al cl) 25)).alloc (.cells (c.cells ah ch al cl) 67)) := h1.alloc (by simp) _
  rw [World.size_alloc] at h2
  have H2 := Lib.hid h2
  clear h2
  go_enter Try.func48, Try.ntmps48
  go_wp2_with fail
  refine (isCabinet_any H2.out hh hl).mono ?_
  rintro e w3 ⟨rfl, hb3⟩
  rw [hv]
  go_wp2_with (go_at_call 66; refine (need_no _ _).mono ?_; rintro e w' ⟨rfl, rfl⟩)
  exact ⟨rfl, rfl, h3.trans (hb3.mono (by simp; omega))⟩

end Go.Proofs.Ytlhobddaojdnoaa
