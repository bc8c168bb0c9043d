/- The reference: is a cabinet valid. -/
import Derived.Test.YtlhobddaojdnoaaR1
import Derived.Test.YtlhobddaojdnoaaBase2
namespace Go.Proofs.Ytlhobddaojdnoaa
open Go.RowKit

theorem homeOk_dup {c : Cab} {k j : Nat} (hk : k < c.homes.length) (hj : j < k) (h : gi c.homes j = gi c.homes k) : homeOk c k = false := by
  unfold homeOk
  rw [Bool.and_eq_false_iff]
  right
  simp only [decide_eq_false_iff_not]
  intro hl
  exact lies_self hk hl j hj h
theorem homeOk_one {c : Cab} {k : Nat} (hk : k < c.homes.length) (hs : c.slotOf (gi c.homes k) = true) (h : ∀ j, j < k → gi c.homes j ≠ gi c.homes k) : homeOk c k = true := by
  unfold homeOk
  rw [hs, lies_first hk h]
  simp
theorem loans_not {c : Cab} {k : Nat} (hk : k < c.loans.length) (h : c.loanOk (gl c.loans k) = false) : c.loans.all c.loanOk = false := by
  rw [List.all_eq_false]
  refine ⟨gl c.loans k, ?_, by simp [h]⟩
  simp [gl, hk]
theorem loans_all {c : Cab} (h : ∀ k, k < c.loans.length → c.loanOk (gl c.loans k) = true) : c.loans.all c.loanOk = true := by
  rw [List.all_eq_true]
  intro x hx
  obtain ⟨i, hi, rfl⟩ := List.getElem_of_mem hx
  have := h i hi
  simpa [gl, hi] using this

set_option maxRecDepth 100000 in
set_option maxHeartbeats 2000000 in
theorem refCab_no {c : Cab} {ah : Option Addr} {ch : Nat} {al : Option Addr} {cl : Nat} (w : World) (hs : c.sizes = false) (hh : c.homes.length ≤ 16) (hl : c.loans.length ≤ 30) :
    Calls Try.prog 35 #[c.v ah ch al cl] w fun e w' => e = .returned (.bool false) ∧ Below w.heap.size w w' := by
  have hb : Below w.heap.size w (cabW c ah ch al cl w) := (Below.refl _ w).alloc (Nat.le_refl _) _
  unfold Cab.sizes at hs
  cases h1 : inR c.slots 1 6
  · clear hs
    go_enter Try.func35, Try.ntmps35
    go_wp2_with (go_at_call 78; refine (in_any _ _ _ _).mono ?_; rintro e w' ⟨rfl, rfl⟩; rw [h1])
    go_ret
    exact ⟨rfl, hb⟩
  · by_cases h2 : c.homes.length ≤ 5
    · cases h3 : inR c.wrong 0 12
      · clear hs
        go_enter Try.func35, Try.ntmps35
        go_wp2_with (go_at_call 78; refine (in_any _ _ _ _).mono ?_; rintro e w' ⟨rfl, rfl⟩; first | rw [h1] | rw [h3])
        go_ret
        exact ⟨rfl, hb⟩
      · have h4 : ¬ c.loans.length ≤ 12 := fun h4 => by simp [h1, h2, h3, h4] at hs
        clear hs
        go_enter Try.func35, Try.ntmps35
        go_wp2_with (go_at_call 78; refine (in_any _ _ _ _).mono ?_; rintro e w' ⟨rfl, rfl⟩; first | rw [h1] | rw [h3])
        go_ret
        exact ⟨rfl, hb⟩
    · clear hs
      go_enter Try.func35, Try.ntmps35
      go_wp2_with (go_at_call 78; refine (in_any _ _ _ _).mono ?_; rintro e w' ⟨rfl, rfl⟩; rw [h1])
      go_ret
      exact ⟨rfl, hb⟩

set_option maxRecDepth 100000 in
set_option maxHeartbeats 4000000 in
theorem refCab_yes {c : Cab} {ah : Option Addr} {ch : Nat} {al : Option Addr} {cl : Nat} {w : World} (hi : IsInts w ah c.homes) (li : IsLoans w al c.loans) (hs : c.sizes = true) :
    Calls Try.prog 35 #[c.v ah ch al cl] w fun e w' => e = .returned (.bool c.valid) ∧ Below w.heap.size w w' := by
  have hb : Below w.heap.size w (w.alloc (.cells (c.cells ah ch al cl) 25)) := (Below.refl _ w).alloc (Nat.le_refl _) _
  have hv : c.valid = (c.homesOk && c.loans.all c.loanOk) := by unfold Cab.valid; rw [hs]; rfl
  have HV := Lib.hid hv
  unfold Cab.sizes at hs
  simp only [Bool.and_eq_true, decide_eq_true_eq] at hs
  obtain ⟨⟨⟨h1, h2⟩, h3⟩, h4⟩ := hs
  have hsl : 0 ≤ c.slots ∧ c.slots ≤ 100 := by unfold inR at h1; simp at h1; omega
  have hn16 : c.homes.length ≤ 16 := by omega
  clear hv
  have hz : (w.alloc (.cells (c.cells ah ch al cl) 25)).heap.size = w.heap.size + 1 := by simp
  have H0 : Hid (∀ o, (w.alloc (.cells (c.cells ah ch al cl) 25)).cell? ⟨w.heap.size, o, none⟩ = (c.cells ah ch al cl)[o]?) := fun o => by rw [cell_of_heap (World.alloc_heap_new w _)]
  go_enter Try.func35, Try.ntmps35
  go_wp2_with (go_at_call 78; refine (in_any _ _ _ _).mono ?_; rintro e w' ⟨rfl, rfl⟩; first | rw [h1] | rw [h3])
  revert hb hz H0
  generalize (w.alloc (.cells (c.cells ah ch al cl) 25)) = W0
  intro hb hz H0
  have HC : Hid (∀ wr, Below (w.heap.size + 1) W0 wr → w.heap.size + 1 ≤ wr.heap.size ∧ wr.cell? ⟨w.heap.size, 0, none⟩ = some (.int .i64 c.slots) ∧ wr.cell? ⟨w.heap.size, 1, none⟩ = some (.slice ah c.homes.length ch) ∧
      wr.cell? ⟨w.heap.size, 2, none⟩ = some (.int .i64 c.wrong) ∧ wr.cell? ⟨w.heap.size, 3, none⟩ = some (.slice al c.loans.length cl)) := by
    intro wr hbr
    have h := fun o => (hbr.cell (p := ⟨w.heap.size, o, none⟩) (by simp)).trans (H0.out o)
    exact ⟨by have := hbr.size; omega, h 0, h 1, h 2, h 3⟩
  clear hz
  go_loopw [3] (fun i wr => ∃ k : Nat, k ≤ c.homes.length ∧ i = .int .i64 k ∧ Hid (∀ j, j < k → homeOk c j = true) ∧ Below (w.heap.size + 1) W0 wr) (fun i _ => c.homes.length - (intOf i).toNat)
  case atStart => exact ⟨0, by omega, rfl, fun j hj => by omega, Below.refl _ _⟩
  case round =>
    obtain ⟨wo, rfl⟩ : ∃ wo : World, wo = wr := ⟨_, rfl⟩
    obtain ⟨k, hk, rfl, HA, hbr⟩ := hrel
    obtain ⟨hzr, d0, d1, d2, d3⟩ := HC.out wo hbr
    by_cases hlt : k < c.homes.length
    · have HK := Lib.hid (@homesOk_not c k hlt)
      have HU := Lib.hid (fun j => @homeOk_dup c k j hlt)
      have HO := Lib.hid (@homeOk_one c k hlt)
      obtain ⟨b, off, hah, hcell⟩ := hi.at hlt
      have HH := Lib.hid hah
      have HCW : Hid (∀ w2, Below (w.heap.size + 1) W0 w2 → ∀ j, j < c.homes.length → w2.cell? ⟨b, off + j, none⟩ = some (.int .i64 (gi c.homes j))) :=
        fun w2 hb2 j hj => below_cellOf (hb2.mono (Nat.le_succ _)) (lt_of_cell (hcell j hj)) (cell_stays hb (hcell j hj))
      clear hcell hah
      have hck := HCW.out wo hbr k hlt
      rw [HH.out] at d1
      have x0 := fun y : Aft wo.heap.size wo => cell_stays y.h d0
      have x1 := fun y : Aft wo.heap.size wo => cell_stays y.h d1
      have x2 := fun y : Aft wo.heap.size wo => cell_stays y.h d2
      have x3 := fun y : Aft wo.heap.size wo => cell_stays y.h d3
      have x4 := fun y : Aft wo.heap.size wo => cell_stays y.h hck
      cases hi1 : c.slotOf (gi c.homes k)
      · have hno : Hid (homeOk c k = false) := by unfold Hid homeOk; rw [hi1]; rfl
        go_wp2
        refine wp_region_aft mixed (by kernel_rfl) ?_
        repeat (go_big_quiet_step ((go_at_call 62; exact calls_aft (rslot_any _ _ hsl))))
        refine wpQuiet_nil ?_
        rintro _ ⟨y, rfl⟩
        go_wp2
        go_ret
        refine ⟨ret_bool ?_, hb.trans ((hbr.trans (y.h.mono hzr)).mono (Nat.le_succ _))⟩
        rw [HV.out, HK.out hno.out]; rfl
      · go_wp2
        refine wp_region_aft mixed (by kernel_rfl) ?_
        repeat (go_big_quiet_step ((go_at_call 62; exact calls_aft (rslot_any _ _ hsl))))
        refine wpQuiet_nil ?_
        rintro _ ⟨y, rfl⟩
        have hby : Below (w.heap.size + 1) W0 y.v := hbr.trans (y.h.mono hzr)
        clear x0 x1 x2 x3 x4 d0 d1 d2 d3 hck
        go_wp2
        go_loopw [4] (fun i w2 => ∃ j : Nat, j ≤ k ∧ i = .int .i64 j ∧ Hid (∀ m, m < j → gi c.homes m ≠ gi c.homes k) ∧ Below (w.heap.size + 1) W0 w2) (fun i _ => k - (intOf i).toNat)
        case atStart => exact ⟨0, by omega, rfl, fun j hj => by omega, hby⟩
        case round =>
          obtain ⟨j, hj, rfl, HN, hb2⟩ := hrel
          obtain ⟨hz2, d0, d1, d2, d3⟩ := HC.out wr hb2
          by_cases hjk : j < k
          · have hck := HCW.out wr hb2 k hlt
            have hcj := HCW.out wr hb2 j (by omega)
            rw [HH.out] at d1
            have x1 := fun y : Aft wr.heap.size wr => cell_stays y.h d1
            have x4 := fun y : Aft wr.heap.size wr => cell_stays y.h hck
            have x5 := fun y : Aft wr.heap.size wr => cell_stays y.h hcj
            by_cases he : gi c.homes j = gi c.homes k
            · have hno : Hid (homeOk c k = false) := HU.out j hjk he
              have hbe : (gi c.homes j == gi c.homes k) = true := by simpa using he
              clear he
              go_wp2
              refine wp_region_aft mixed (by kernel_rfl) ?_
              repeat (go_big_quiet_step (fail))
              refine wpQuiet_nil ?_
              rintro _ ⟨z, rfl⟩
              go_wp2
              go_ret
              refine ⟨ret_bool ?_, hb.trans ((hb2.trans (z.h.mono hz2)).mono (Nat.le_succ _))⟩
              rw [HV.out, HK.out hno.out]; rfl
            · have hbe : (gi c.homes j == gi c.homes k) = false := by simpa using he
              have HE := Lib.hid he
              clear he
              go_wp2
              refine wp_region_aft mixed (by kernel_rfl) ?_
              repeat (go_big_quiet_step (fail))
              refine wpQuiet_nil ?_
              rintro _ ⟨z, rfl⟩
              go_wp2
              go_roundw
              case rel => exact ⟨j + 1, by omega, by go_num, fun m hm => by
                by_cases e : m = j
                · subst e; exact HE.out
                · exact HN.out m (by omega), hb2.trans (z.h.mono hz2)⟩
              case measure => simp [intOf]; omega
          · have hjk' : j = k := by omega
            subst hjk'
            go_wp2
            go_roundw
            case rel => exact ⟨j + 1, by omega, by go_num, fun m hm => by
              by_cases e : m = j
              · subst e; exact HO.out hi1 HN.out
              · exact HA.out m (by omega), hb2⟩
            case measure => simp [intOf]; omega
    · have hall : Hid (c.homesOk = true) := homesOk_of (fun j hj => HA.out j (by omega))
      go_wp2
      go_loopw [5] (fun i wr => ∃ k : Nat, k ≤ c.loans.length ∧ i = .int .i64 k ∧ Hid (∀ j, j < k → c.loanOk (gl c.loans j) = true) ∧ Below (w.heap.size + 1) W0 wr) (fun i _ => c.loans.length - (intOf i).toNat)
      case atStart => exact ⟨0, by omega, rfl, fun j hj => by omega, hbr⟩
      case round =>
        obtain ⟨k, hk, rfl, HB, hb2⟩ := hrel
        obtain ⟨hz2, d0, d1, d2, d3⟩ := HC.out wr hb2
        by_cases hlt : k < c.loans.length
        · have HK := Lib.hid (@loans_not c k hlt)
          obtain ⟨b, off, hah, l0, l1, l2, l3⟩ := li k hlt
          have HH := Lib.hid hah
          clear hah
          have hbw : Below w.heap.size w wr := hb.trans (hb2.mono (Nat.le_succ _))
          have k0 := cell_stays hbw l0
          have k1 := cell_stays hbw l1
          have k2 := cell_stays hbw l2
          have k3 := cell_stays hbw l3
          clear l0 l1 l2 l3
          rw [HH.out] at d3
          have x0 := fun y : Aft wr.heap.size wr => cell_stays y.h d0
          have x1 := fun y : Aft wr.heap.size wr => cell_stays y.h d1
          have x2 := fun y : Aft wr.heap.size wr => cell_stays y.h d2
          have x3 := fun y : Aft wr.heap.size wr => cell_stays y.h d3
          have y0 := fun y : Aft wr.heap.size wr => cell_stays y.h k0
          have y1 := fun y : Aft wr.heap.size wr => cell_stays y.h k1
          have y2 := fun y : Aft wr.heap.size wr => cell_stays y.h k2
          have y3 := fun y : Aft wr.heap.size wr => cell_stays y.h k3
          cases hi1 : c.loanOk (gl c.loans k)
          · have hno : Hid (c.loanOk (gl c.loans k) = false) := hi1
            go_wp2
            refine wp_region_aft mixed (by kernel_rfl) ?_
            repeat (go_big_quiet_step ((go_at_call 79; exact calls_aft (rloan_any _ _ hn16 hsl))))
            refine wpQuiet_nil ?_
            rintro _ ⟨z, rfl⟩
            go_wp2
            go_ret
            refine ⟨ret_bool ?_, hb.trans ((hb2.trans (z.h.mono hz2)).mono (Nat.le_succ _))⟩
            rw [HV.out, HK.out hno.out, Bool.and_false]
          · have HY := Lib.hid hi1
            go_wp2
            refine wp_region_aft mixed (by kernel_rfl) ?_
            repeat (go_big_quiet_step ((go_at_call 79; exact calls_aft (rloan_any _ _ hn16 hsl))))
            refine wpQuiet_nil ?_
            rintro _ ⟨z, rfl⟩
            go_wp2
            go_roundw
            case rel => exact ⟨k + 1, by omega, by go_num, fun m hm => by
              by_cases e : m = k
              · subst e; exact HY.out
              · exact HB.out m (by omega), hb2.trans (z.h.mono hz2)⟩
            case measure => simp [intOf]; omega
        · have hla : Hid (c.loans.all c.loanOk = true) := loans_all (fun j hj => HB.out j (by omega))
          go_wp2
          go_ret
          refine ⟨ret_bool ?_, hb.trans (hb2.mono (Nat.le_succ _))⟩
          rw [HV.out, hall.out, hla.out]; rfl
theorem refCab_any {c : Cab} {ah : Option Addr} {ch : Nat} {al : Option Addr} {cl : Nat} {w : World} (hi : IsInts w ah c.homes) (li : IsLoans w al c.loans) (hh : c.homes.length ≤ 16) (hl : c.loans.length ≤ 30) :
    Calls Try.prog 35 #[c.v ah ch al cl] w fun e w' => e = .returned (.bool c.valid) ∧ Below w.heap.size w w' := by
  cases hs : c.sizes with
  | true => exact refCab_yes hi li hs
  | false =>
    have hv : c.valid = false := by unfold Cab.valid; rw [hs]; rfl
    rw [hv]
    exact refCab_no w hs hh hl
end Go.Proofs.Ytlhobddaojdnoaa
