/- Plain laws of ways: a round never ends; what can't be of a card can't be of its first one. The reference's Way. -/
import Derived.Test.YtnfhlbmapfoifaaR5
namespace Go.Proofs.Ytnfhlbmapfoifaa
open Go.RowKit
set_option linter.unusedVariables false

theorem pigeon : ∀ (n : Nat) (f : Nat → Nat), (∀ i, i ≤ n → f i < n) → ∃ i j, i < j ∧ j ≤ n ∧ f i = f j
  | 0, f, h => by have := h 0 (Nat.le_refl _); omega
  | n + 1, f, h => by
    by_cases hv : ∃ i, i ≤ n ∧ f i = f (n + 1)
    · obtain ⟨i, hi, e⟩ := hv
      exact ⟨i, n + 1, by omega, Nat.le_refl _, e⟩
    · obtain ⟨i, j, hij, hj, e⟩ := pigeon n (fun i => if f (n + 1) < f i then f i - 1 else f i) (fun i hi => by
        have h1 := h i (by omega)
        have h2 := h (n + 1) (Nat.le_refl _)
        have h3 : f i ≠ f (n + 1) := fun e => hv ⟨i, hi, e⟩
        try dsimp only
        split <;> omega)
      have h1 : f i ≠ f (n + 1) := fun e => hv ⟨i, by omega, e⟩
      have h2 : f j ≠ f (n + 1) := fun e => hv ⟨j, hj, e⟩
      refine ⟨i, j, hij, by omega, ?_⟩
      try dsimp only at e
      split at e <;> split at e <;> omega
theorem up_shift {wl : List Int} {c : Int} {i j : Nat} (h : upW wl i c = upW wl j c) : ∀ k, upW wl (i + k) c = upW wl (j + k) c
  | 0 => h
  | k + 1 => by rw [show i + (k + 1) = (i + k) + 1 from rfl, show j + (k + 1) = (j + k) + 1 from rfl, upW_snoc, upW_snoc, up_shift h k]
theorem round_never {n : Nat} {wl : List Int} (hw : GoodW n wl) {c : Nat} (hc : c < n) (h : upW wl n (c : Int) ≠ -1) : ∀ m, upW wl m (c : Int) ≠ -1 := by
  have hle : ∀ m, m ≤ n → upW wl m (c : Int) ≠ -1 := fun m hm e => by
    have := upW_stays e (n - m)
    rw [show m + (n - m) = n by omega] at this
    exact h this
  obtain ⟨i, j, hij, hj, e⟩ := pigeon n (fun m => (upW wl m (c : Int)).toNat) (fun m hm => by
    have h1 := upW_rng hw m (c : Int) (by omega) (by omega)
    have h2 := hle m hm
    omega)
  have e' : upW wl i (c : Int) = upW wl j (c : Int) := by
    have h1 := upW_rng hw i (c : Int) (by omega) (by omega)
    have h2 := hle i (by omega)
    have h3 := upW_rng hw j (c : Int) (by omega) (by omega)
    have h4 := hle j hj
    try dsimp only at e
    omega
  intro m
  induction m using Nat.strongRecOn with
  | ind m ih =>
    by_cases hm : m ≤ n
    · exact hle m hm
    · have := up_shift e' (m - j)
      rw [show j + (m - j) = m by omega] at this
      rw [← this]
      exact ih _ (by omega)
theorem goW_false {by_ : Int × Int} {rec : Nat → (Int × Int) × Bool} {wl : List Int} {card j : Nat} (he : gi wl j = (card : Int)) (hj : (rec j).2 = false) : ∀ (l : List Nat) (own : Int × Int), j ∈ l → (goW by_ rec wl card own l).2 = false
  | [], _, h => by cases h
  | k :: r, own, h => by
    unfold goW
    split
    · dsimp only
      split
      · rename_i h1 h2
        refine goW_false he hj r _ ?_
        rcases List.mem_cons.1 h with e | e
        · subst e; rw [hj] at h2; cases h2
        · exact e
      · rfl
    · rename_i h1
      refine goW_false he hj r _ ?_
      rcases List.mem_cons.1 h with e | e
      · subst e; exact (h1 he).elim
      · exact e
theorem goW_congr {by_ : Int × Int} {rec rec' : Nat → (Int × Int) × Bool} {wl : List Int} {card : Nat} : ∀ (l : List Nat) (own : Int × Int), (∀ j ∈ l, gi wl j = (card : Int) → rec j = rec' j) → goW by_ rec wl card own l = goW by_ rec' wl card own l
  | [], _, _ => rfl
  | k :: r, own, h => by
    unfold goW
    split
    · rename_i h1
      rw [h k (by simp) h1]
      dsimp only
      split
      · exact goW_congr r _ (fun j hj => h j (by simp [hj]))
      · rfl
    · exact goW_congr r _ (fun j hj => h j (by simp [hj]))
theorem whatF_fuel {p : Prs} {wl : List Int} {what : Bool} : ∀ (d c : Nat), Dep wl d c → whatF p wl what (d + 1) c = whatF p wl what d c
  | 0, _, h => h.elim
  | d + 1, c, h => by
    show goW _ (whatF p wl what (d + 1)) wl c _ _ = goW _ (whatF p wl what d) wl c _ _
    exact goW_congr _ _ fun j hj he => whatF_fuel d j (h j (List.mem_range.1 hj) he)
theorem can_up {p : Prs} {wl : List Int} {what : Bool} {n : Nat} (hw : GoodW n wl) (hr : roundB wl = false) : ∀ (m c : Nat), upW wl m (c : Int) = -1 → c < n → (whatF p wl what (wl.length + 1) c).2 = false → canB p wl what = false
  | 0, c, h, _, _ => by simp [upW] at h
  | m + 1, c, h, hc, hf => by
    have hcl : c < wl.length := by rw [hw.1]; exact hc
    by_cases h1 : gi wl c = -1
    · exact canB_false hcl h1 hf
    · have hg := hw.gi hc
      obtain ⟨r, hr'⟩ := Int.eq_ofNat_of_zero_le (show 0 ≤ gi wl c by omega)
      have hrn : r < n := by omega
      refine can_up hw hr m r ?_ hrn ?_
      · have h2 : upW wl (m + 1) (c : Int) = upW wl m (if (c : Int) = -1 then -1 else gi wl ((c : Int)).toNat) := rfl
        rw [h2, if_neg (by omega)] at h
        rw [show ((c : Int)).toNat = c from rfl, hr'] at h
        exact h
      · rw [← whatF_fuel (wl.length + 1) r (dep_of hr (by rw [hw.1]; exact hrn))]
        exact goW_false hr' hf _ _ (List.mem_range.2 hcl)
end Go.Proofs.Ytnfhlbmapfoifaa

namespace Go.Proofs.Ytnfhlbmapfoifaa
open Go.RowKit
set_option linter.unusedVariables false

set_option maxRecDepth 100000 in
set_option maxHeartbeats 4000000 in
theorem way_ref {p : Prs} {a : Option Addr} {cap : Nat} {wl : List Int} {aw : Option Addr} {cw : Nat} {w : World} (hv : p.valid = true) (hw : GoodW p.cards.length wl) (ha : IsPrts w a p.cards) (hi : IsInts w aw wl) :
    Calls Try.prog 45 #[p.v a cap, .slice aw wl.length cw] w fun e w' => e = .returned (.bool (isWayB p wl)) ∧ Below w.heap.size w w' := by
  have hn5 := (valid_parts hv).1
  have hll : wl.length ≤ 5 := by rw [hw.1]; exact hn5
  have hb0 : Below w.heap.size w (w.alloc (.cells (p.cells a cap) 26)) := (Below.refl _ w).alloc (Nat.le_refl _) _
  have q0 := World.alloc_heap_new w (.cells (p.cells a cap) 26)
  have HW := Lib.hid (And.intro hb0 (And.intro q0 (And.intro (ha.mono hb0) (hi.mono hb0))))
  have HV := Lib.hid (And.intro hv hw)
  have HI : Hid (isWayB p wl = (marksB p wl && !roundB wl && canB p wl false && canB p wl true)) := rfl
  clear hb0 q0 ha hi hv hw
  go_enter Try.func45, Try.ntmps45
  go_wp2_with fail
  revert HW
  generalize w.alloc (.cells (p.cells a cap) 26) = w1
  intro HW
  have kp : ∀ v, Below w1.heap.size w1 v → IsPrts v a p.cards ∧ v.heap[w.heap.size]? = some (.cells (p.cells a cap) 26 (0, 0)) ∧ IsInts v aw wl := fun v h => ⟨HW.out.2.2.1.mono h, (h.block _ (heap_lt HW.out.2.1)).trans HW.out.2.1, HW.out.2.2.2.mono h⟩
  have KP := Lib.hid kp
  clear kp
  go_loopw [5, 6, 7] (fun i _ _ wr => ∃ k : Nat, k ≤ wl.length ∧ i = .int .i64 k ∧ Below w1.heap.size w1 wr ∧ Hid (∀ c : Nat, c < k → upW wl wl.length (c : Int) = -1) ∧ Hid (∀ c, c < k → (decide (gi wl c = -1) || markedB p c (gi wl c).toNat) = true)) (fun i _ _ _ => wl.length - (intOf i).toNat)
  case atStart => exact ⟨0, by omega, rfl, Below.refl _ _, fun c hc => by omega, fun c hc => by omega⟩
  case round =>
    obtain ⟨k, hk, rfl, hbr, HU, HK⟩ := hrel
    by_cases hlt : k < wl.length
    · obtain ⟨wo, hwo⟩ : ∃ wo : World, wo = wr := ⟨_, rfl⟩
      subst hwo
      have HBR := Lib.hid hbr
      clear hbr
      go_wp2_with fail
      go_loopw [6, 7] (fun s q wr' => ∃ m u : Nat, s = .int .i64 m ∧ q = .int .i64 u ∧ m ≤ wl.length ∧ u < wl.length ∧ Hid (upW wl m (k : Int) = (u : Int)) ∧ wo = wr') (fun s q _ => wl.length + 1 - (intOf s).toNat)
      case atStart => exact ⟨0, k, rfl, rfl, by omega, hlt, rfl, rfl⟩
      case round =>
        obtain ⟨m, u, rfl, rfl, hm, hu, HM, rfl⟩ := hrel
        obtain ⟨b, off, rfl, hat⟩ := (KP.out wo HBR.out).2.2.at hlt
        have hau := hat u hu
        have hak := hat k hlt
        clear hat
        have hun : u < p.cards.length := by have := HV.out.2.1; omega
        have hkn : k < p.cards.length := by have := HV.out.2.1; omega
        have HGU := Lib.hid (HV.out.2.gi hun)
        have HGK := Lib.hid (HV.out.2.gi hkn)
        by_cases h1 : gi wl u = -1
        · have HUK : Hid (∀ c : Nat, c < k + 1 → upW wl wl.length (c : Int) = -1) := fun c hc => by
            by_cases e : c = k
            · subst e
              apply Classical.byContradiction
              intro hne
              have h2 := round_never HV.out.2 (c := c) hkn (by rw [← HV.out.2.1]; exact hne) (m + 1)
              rw [upW_snoc, HM.out, if_neg (by omega)] at h2
              exact h2 h1
            · exact HU.out c (by omega)
          have HNX : Hid ((decide (gi wl k = -1) || markedB p k (gi wl k).toNat) = true → ∀ c, c < k + 1 → (decide (gi wl c = -1) || markedB p c (gi wl c).toNat) = true) := fun h c hc => by
            by_cases e : c = k
            · subst e; exact h
            · exact HK.out c (by omega)
          have hb1 : (gi wl u != -1) = false := by simpa using h1
          clear h1
          by_cases h2 : gi wl k = -1
          · have hb2 : (gi wl k != -1) = false := by simpa using h2
            have H2 := Lib.hid h2
            have x0 := fun y : Aft wo.heap.size wo => cell_stays y.h hak
            clear h2
            go_wp2_with fail
            refine wp_region_aft mixed (by kernel_rfl) ?_
            repeat (go_big_quiet_step (fail))
            refine wpQuiet_nil ?_
            rintro _ ⟨z, rfl⟩
            go_wp2_with fail
            go_roundw
            case rel => exact ⟨k + 1, by omega, by go_num, HBR.out.trans (z.h.mono HBR.out.size), HUK, HNX.out (by simp [H2.out])⟩
            case measure => simp [intOf]; omega
          · obtain ⟨x, hx⟩ := Int.eq_ofNat_of_zero_le (show 0 ≤ gi wl k by have := HGK.out; omega)
            have hxn : x < p.cards.length := by have := HGK.out; omega
            have HX := Lib.hid (And.intro h2 hx)
            rw [hx] at hak
            have hb2 : ((x : Int) != -1) = true := by simp
            have x0 := fun y : Aft wo.heap.size wo => cell_stays y.h hak
            obtain ⟨k0, k1, k2, k3, k4⟩ := prs_cells (KP.out wo HBR.out).2.1
            have z0 := fun y : Aft wo.heap.size wo => cell_stays y.h k0
            have z1 := fun y : Aft wo.heap.size wo => cell_stays y.h k1
            have z2 := fun y : Aft wo.heap.size wo => cell_stays y.h k2
            have z3 := fun y : Aft wo.heap.size wo => cell_stays y.h k3
            have z4 := fun y : Aft wo.heap.size wo => cell_stays y.h k4
            have CM := Lib.hid (fun z : Aft wo.heap.size wo => marked_ref (cap := cap) ((KP.out wo HBR.out).1.mono z.h) HV.out.1 hn5 hkn hxn)
            clear k0 k1 k2 k3 k4 h2 hx
            cases hc : markedB p k x
            · rw [hc] at CM
              have HC := Lib.hid hc
              clear hc
              go_wp2_with fail
              refine wp_region_aft mixed (by kernel_rfl) ?_
              repeat (go_big_quiet_step ((go_at_call 88; exact calls_aft (CM.out _))))
              refine wpQuiet_nil ?_
              rintro _ ⟨z, rfl⟩
              go_wp2_with fail
              go_ret
              refine ⟨ret_bool ?_, HW.out.1.trans ((HBR.out.trans (z.h.mono HBR.out.size)).mono HW.out.1.size)⟩
              rw [HI.out, marksB_false hlt HX.out.1 (by rw [HX.out.2]; exact HC.out)]
              rfl
            · rw [hc] at CM
              have HC := Lib.hid hc
              clear hc
              go_wp2_with fail
              refine wp_region_aft mixed (by kernel_rfl) ?_
              repeat (go_big_quiet_step ((go_at_call 88; exact calls_aft (CM.out _))))
              refine wpQuiet_nil ?_
              rintro _ ⟨z, rfl⟩
              go_wp2_with fail
              go_roundw
              case rel => exact ⟨k + 1, by omega, by go_num, HBR.out.trans (z.h.mono HBR.out.size), HUK, HNX.out (by rw [HX.out.2]; simpa using HC.out)⟩
              case measure => simp [intOf]; omega
        · obtain ⟨x, hx⟩ := Int.eq_ofNat_of_zero_le (show 0 ≤ gi wl u by have := HGU.out; omega)
          have hxn : x < wl.length := by have := HGU.out; have := HV.out.2.1; omega
          have HS : Hid (upW wl (m + 1) (k : Int) = (x : Int)) := by rw [Hid, upW_snoc, HM.out, if_neg (by omega)]; exact hx
          rw [hx] at hau
          have hb1 : ((x : Int) != -1) = true := by simp
          clear h1 hx
          by_cases h3 : m < wl.length
          · go_wp2_with fail
            go_roundw
            case rel => exact ⟨m + 1, x, by go_num, rfl, by omega, hxn, HS, by first | trivial | rfl⟩
            case measure => simp [intOf]; omega
          · obtain rfl : m = wl.length := by omega
            have HR : Hid (roundB wl = true) := roundB_true hlt (by rw [HM.out]; omega)
            go_wp2_with fail
            go_ret
            refine ⟨ret_bool ?_, HW.out.1.trans (HBR.out.mono HW.out.1.size)⟩
            rw [HI.out, HR.out]
            cases marksB p wl <;> rfl
    · obtain rfl : k = wl.length := by omega
      have HR : Hid (roundB wl = false) := roundB_false.2 HU.out
      have HMK : Hid (marksB p wl = true) := marksB_true HK.out
      have HBR := Lib.hid hbr
      clear hbr HU HK
      go_wp2_with fail
      go_loopw [8, 9, 10] (fun i _ _ wr => ∃ k : Nat, k ≤ wl.length ∧ i = .int .i64 k ∧ Below w1.heap.size w1 wr ∧ Hid (∀ c what, c < k → (whatF p wl what (wl.length + 1) c).2 = true)) (fun i _ _ _ => wl.length - (intOf i).toNat)
      case atStart => exact ⟨0, by omega, rfl, HBR.out, fun c _ hc => by omega⟩
      case round =>
        obtain ⟨k, hk, rfl, hbr, HK⟩ := hrel
        by_cases hlt : k < wl.length
        · obtain ⟨wo, hwo⟩ : ∃ wo : World, wo = wr := ⟨_, rfl⟩
          subst hwo
          have HBO := Lib.hid hbr
          clear hbr
          go_wp2_with fail
          go_loopw [9, 10] (fun q _ wr => ∃ x : Nat, x ≤ 2 ∧ q = .int .i64 x ∧ Below w1.heap.size w1 wr ∧ Hid (∀ what, whN what < x → (whatF p wl what (wl.length + 1) k).2 = true)) (fun q _ _ => 2 - (intOf q).toNat)
          case atStart => exact ⟨0, by omega, rfl, HBO.out, fun what h => by cases what <;> simp [whN] at h⟩
          case round =>
            obtain ⟨x, hx, rfl, hbr, HX⟩ := hrel
            by_cases hx2 : x < 2
            · obtain ⟨what, hwh⟩ : ∃ what, (x : Int) = whN what := by
                have : x = 0 ∨ x = 1 := by omega
                rcases this with rfl | rfl
                · exact ⟨false, rfl⟩
                · exact ⟨true, rfl⟩
              have hkn : k < p.cards.length := by have := HV.out.2.1; omega
              have hcall := largest_ref (cap := cap) (what := what) (cw := cw) HV.out.1 HV.out.2.1 (wl.length + 1) k wr (dep_of HR.out hlt) hkn (by omega) (KP.out wr hbr).1 (KP.out wr hbr).2.2
              rw [← hwh] at hcall
              obtain ⟨k0, k1, k2, k3, k4⟩ := prs_cells (KP.out wr hbr).2.1
              have HC := Lib.hid hcall
              have HWH := Lib.hid hwh
              have HB := Lib.hid hbr
              clear hcall hwh hbr
              go_wp2_with fail
              (with_reducible refine HC.out.mono ?_)
              clear HC
              rintro e w5 ⟨clo, chi, rfl, hok, hval, hb5⟩
              have HB5 := Lib.hid (HB.out.trans (hb5.mono HB.out.size))
              have HVL := Lib.hid hval
              clear k0 k1 k2 k3 k4 hb5 hval
              have ha5 : Below w5.heap.size w5 (w5.alloc (.cells #[.int .i64 clo, .int .i64 chi] 24)) := (Below.refl _ w5).alloc (Nat.le_refl _) _
              have HB6 := Lib.hid (HB5.out.trans (ha5.mono HB5.out.size))
              clear ha5
              cases hS : (whatF p wl what (wl.length + 1) k).2
              · rw [hS] at hok
                have hgt : chi < clo := by
                  have := of_decide_eq_false hok
                  omega
                have HS := Lib.hid hS
                clear hok hS
                go_wp2_with fail
                go_ret
                refine ⟨ret_bool ?_, HW.out.1.trans (HB6.out.mono HW.out.1.size)⟩
                have hcf := can_up HV.out.2 HR.out wl.length k (roundB_false.1 HR.out k hlt) hkn HS.out
                rw [HI.out, HMK.out, HR.out]
                cases what
                · rw [hcf]; rfl
                · rw [hcf]; cases canB p wl false <;> rfl
              · rw [hS] at hok
                have hle := of_decide_eq_true hok
                have HS := Lib.hid hS
                clear hok hS
                go_wp2_with fail
                go_roundw
                case rel => exact ⟨x + 1, by omega, by go_num, HB6.out, fun wh h => by
                  by_cases e : wh = what
                  · subst e; exact HS.out
                  · refine HX.out wh ?_
                    have h1 := HWH.out
                    cases wh <;> cases what <;> simp [whN] at h1 h e ⊢ <;> omega⟩
                case measure => simp [intOf]; omega
            · obtain rfl : x = 2 := by omega
              have HB := Lib.hid hbr
              clear hbr
              go_wp2_with fail
              go_roundw
              case rel => exact ⟨k + 1, by omega, by go_num, HB.out, fun c what hc => by
                by_cases e : c = k
                · subst e; exact HX.out what (by cases what <;> simp [whN])
                · exact HK.out c what (by omega)⟩
              case measure => simp [intOf]; omega
        · obtain rfl : k = wl.length := by omega
          have HB := Lib.hid hbr
          clear hbr
          go_wp2_with fail
          go_ret
          refine ⟨ret_bool ?_, HW.out.1.trans (HB.out.mono HW.out.1.size)⟩
          rw [HI.out, HMK.out, HR.out, canB_true (fun c hc => by rw [HK.out c false hc]; simp), canB_true (fun c hc => by rw [HK.out c true hc]; simp)]
          rfl
end Go.Proofs.Ytnfhlbmapfoifaa

