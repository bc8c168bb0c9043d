/- The reference's Later: each minute is tried. The plain law of both. -/
import Derived.Test.YtphefhpmbahagaaT32
namespace Go.Proofs.Ytphefhpmbahagaa
open Go.RowKit
set_option linter.unusedVariables false
set_option linter.unusedSimpArgs false

/-! ### the plain law -/
section
variable (n : Nat) (W L H S : Nat → Int)
/-- When one leaves for view i, if one sets out at d. -/
def fwT (d : Int) : Nat → Int
  | 0 => d
  | i + 1 => max (fwT d i + W i) (L i) + S i
def bwU : Nat → Int
  | 0 => 1440
  | k + 1 => (if k = 0 then H (n - 1 - k) else min (H (n - 1 - k)) (bwU k - S (n - 1 - k))) - W (n - 1 - k)
def fwOk (d : Int) : Prop := ∀ i, i < n → max (fwT W L S d i + W i) (L i) ≤ H i
theorem fw_le {d : Int} (h : fwOk n W L H S d) : ∀ k, 0 < k → k ≤ n → fwT W L S d (n - k) ≤ bwU n W H S k
  | 0, h0, _ => by omega
  | k + 1, _, hk => by
    have hi := h (n - 1 - k) (by omega)
    have e : n - (k + 1) = n - 1 - k := by omega
    rw [e, bwU]
    by_cases h0 : k = 0
    · rw [if_pos h0]; omega
    · rw [if_neg h0]
      have ih := fw_le h k (by omega) (by omega)
      have e2 : n - k = (n - 1 - k) + 1 := by omega
      rw [e2, fwT] at ih
      omega
theorem fw_back {d d' : Int} (h : fwOk n W L H S d) (hd : d' ≤ bwU n W H S n) : ∀ i, i < n → fwT W L S d' i ≤ bwU n W H S (n - i)
  | 0, _ => hd
  | i + 1, hi => by
    have ih := fw_back h hd i (by omega)
    have e : n - i = (n - (i + 1)) + 1 := by omega
    have e2 : n - 1 - (n - (i + 1)) = i := by omega
    have hk := fw_le n W L H S h (n - (i + 1)) (by omega) (by omega)
    rw [show n - (n - (i + 1)) = i + 1 by omega, fwT] at hk
    rw [e, bwU, e2, if_neg (by omega)] at ih
    rw [fwT]
    omega
theorem fw_iff {d : Int} (h : fwOk n W L H S d) (hn : 0 < n) (d' : Int) : fwOk n W L H S d' ↔ d' ≤ bwU n W H S n := by
  constructor
  · intro h'
    have := fw_le n W L H S h' n hn (Nat.le_refl _)
    rwa [Nat.sub_self] at this
  · intro hd i hi
    have h1 := fw_back n W L H S h hd i hi
    have h2 := h i hi
    have e : n - i = (n - 1 - i) + 1 := by omega
    have e2 : n - 1 - (n - 1 - i) = i := by omega
    rw [e, bwU, e2] at h1
    have h3 : fwT W L S d' i + W i ≤ H i := by
      split at h1 <;> omega
    omega
end
/-- A tour with another dawn. -/
def Tr.on (t : Tr) (d : Int) : Tr := { t with dawn := d }
theorem on_way (t : Tr) (d : Int) (o : List Int) : ∀ k, k ≤ o.length → (((t.on d).at_ o k).1 = (t.at_ o k).1)
  | 0, _ => rfl
  | k + 1, h => by rw [at_succ _ (by omega), at_succ _ (by omega)]; rfl
theorem on_wayAt (t : Tr) (d : Int) {o : List Int} {k : Nat} (h : k ≤ o.length) : (t.on d).wayAt o k = t.wayAt o k := by
  unfold Tr.wayAt
  rw [on_way t d o k h]
  rfl
theorem on_fw (t : Tr) (d : Int) (o : List Int) : ∀ k, k ≤ o.length → ((t.on d).at_ o k).2.2 = fwT (fun i => (t.wayAt o i).hi) (fun i => (gs t.light (gi o i).toNat).lo) (fun i => (gs t.stay (gi o i).toNat).hi) d k
  | 0, _ => rfl
  | k + 1, h => by
    rw [at_succ _ (by omega), fwT, ← on_fw t d o k (by omega), ← on_wayAt t d (show k ≤ o.length by omega)]
    rfl
theorem on_sure (t : Tr) (d : Int) (o : List Int) : (t.on d).is true o = true ↔ fwOk o.length (fun i => (t.wayAt o i).hi) (fun i => (gs t.light (gi o i).toNat).lo) (fun i => (gs t.light (gi o i).toNat).hi) (fun i => (gs t.stay (gi o i).toNat).hi) d := by
  rw [← inL_is, Tr.inL, List.all_eq_true]
  constructor
  · intro h i hi
    have := h i (by simp [hi])
    rw [mins_at _ _ hi, ← minAt_max, on_wayAt t d (Nat.le_of_lt hi)] at this
    simp only [decide_eq_true_eq] at this
    rw [← on_fw t d o i (Nat.le_of_lt hi)]
    exact this
  · intro h i hi
    have hi : i < o.length := by simpa using hi
    have := h i hi
    rw [← on_fw t d o i (Nat.le_of_lt hi)] at this
    rw [mins_at _ _ hi, ← minAt_max, on_wayAt t d (Nat.le_of_lt hi)]
    simp only [decide_eq_true_eq]
    exact this
theorem until_bw (t : Tr) (o : List Int) : ∀ k, t.untilA o k = bwU o.length (fun i => (t.wayAt o i).hi) (fun i => (gs t.light (gi o i).toNat).hi) (fun i => (gs t.stay (gi o i).toNat).hi) k
  | 0 => rfl
  | k + 1 => by rw [Tr.untilA, bwU, ← until_bw t o k]; rfl
theorem on_self (t : Tr) : t.on t.dawn = t := rfl
/-- Just the dawns that are not after the last one that can be are sure. -/
theorem sure_until {t : Tr} {o : List Int} (h : t.is true o = true) (hn : 0 < o.length) (d : Int) : (t.on d).is true o = true ↔ d ≤ t.untilA o o.length := by
  rw [on_sure, until_bw]
  exact fw_iff _ _ _ _ _ ((on_sure t t.dawn o).1 h) hn d
theorem later_at {t : Tr} {o : List Int} (hE : openE t (t.order o) = 0) (h : t.is true o = true) {d : Int} (hd : (t.on d).is true o = true) (hl : d = 1440 ∨ (d ≤ 1440 ∧ (t.on (d + 1)).is true o = false)) : laterE t o = (d - t.dawn, 0) := by
  have hm : min (t.untilA o o.length) 1440 = d := by
    by_cases hn : 0 < o.length
    · have h1 := (sure_until h hn d).1 hd
      rcases hl with rfl | ⟨h2, h3⟩
      · omega
      · have h4 : ¬ (d + 1 ≤ t.untilA o o.length) := fun e => by rw [(sure_until h hn (d + 1)).2 e] at h3; cases h3
        omega
    · have h0 : o = [] := List.eq_nil_of_length_eq_zero (by omega)
      subst h0
      have h5 : ∀ d, (t.on d).is true [] = true := fun d => rfl
      rcases hl with rfl | ⟨h2, h3⟩
      · rfl
      · rw [h5] at h3; cases h3
  unfold laterE
  rw [if_pos hE, if_pos h, hm]
theorem on_fit {t : Tr} (hF : t.Fit) {d : Int} (h : 0 ≤ d ∧ d ≤ 1440) : (t.on d).Fit := ⟨hF.n, h, hF.ways, hF.stay, hF.light, hF.rows, hF.okf, hF.oks, hF.okl, hF.okw⟩
theorem on_tr {t : Tr} {A : TrA} {w : World} (h : IsTr w t A) (d : Int) : IsTr w (t.on d) A := ⟨h.frm, h.ways, h.stay, h.light⟩
theorem walkedE_cases (t : Tr) (o : List Int) : (openE t (t.order o) ≠ 0 ∧ walkedE t o = (0, openE t (t.order o))) ∨ (openE t (t.order o) = 0 ∧ t.is true o = true ∧ walkedE t o = (2, 0)) ∨ (openE t (t.order o) = 0 ∧ t.is true o = false ∧ (walkedE t o).1 ≠ 2 ∧ (walkedE t o).2 = 0) := by
  by_cases h : openE t (t.order o) = 0
  · cases hs : t.is true o
    · refine .inr (.inr ⟨h, rfl, ?_, ?_⟩)
      · unfold walkedE; rw [if_pos h, hs]
        cases t.is false o <;> simp
      · unfold walkedE; rw [if_pos h]
    · exact .inr (.inl ⟨h, rfl, by unfold walkedE; rw [if_pos h, hs]; rfl⟩)
  · exact .inl ⟨h, by unfold walkedE; rw [if_neg h]⟩

/-! ### the walk -/
def dawnAt (wr : World) (xb : Nat) : Nat := (1440 - intOf ((wr.cell? ⟨xb, 0, none⟩).getD undef)).toNat
set_option maxRecDepth 100000 in
set_option maxHeartbeats 4000000 in
theorem rlater21 {t : Tr} {A : TrA} {w : World} (ht : IsTr w t A) (hs : t.Small) {o : List Int} (hl : o.length ≤ 16) {a : Option Addr} {cap : Nat} (ha : IsInts w a o) :
    Calls Try.prog 21 #[t.v A, .slice a o.length cap] w fun e w' => e = .returned (.tuple #[.int .i64 (laterE t o).1, .int .i64 (laterE t o).2]) ∧ Below w.heap.size w w' := by
  have hbw : Below w.heap.size w (w.alloc (.cells (t.cells A) 25)) := (Below.refl _ w).alloc (Nat.le_refl _) _
  have hq := World.alloc_heap_new w (.cells (t.cells A) 25)
  have HB := Lib.hid (And.intro hbw (And.intro hq (And.intro (ha.mono hbw) (ht.mono hbw))))
  have HSM := Lib.hid hs
  have HSZ : Hid (w.heap.size + 1 ≤ (w.alloc (.cells (t.cells A) 25)).heap.size) := by simp [Hid]
  clear hbw hq ha ht hs
  go_enter Try.func21, Try.ntmps21
  go_upto_region 1 with fail
  revert HB HSZ
  generalize (w.alloc (.cells (t.cells A) 25)) = w1
  intro HB HSZ
  obtain ⟨k0, k1, k2, k3, k4⟩ := tr_cells HB.out.2.1
  go_wp2_with fail
  refine (rwalked15 (cap := cap) HB.out.2.2.2 HSM.out hl HB.out.2.2.1).mono ?_
  rintro e w2 ⟨rfl, hb2⟩
  have HB2 := Lib.hid (HB.out.1.trans (hb2.mono (show w.heap.size ≤ _ from by have := HSZ.out; omega)))
  have hsz2 : w.heap.size + 1 ≤ w2.heap.size := by have := HSZ.out; have := hb2.size; omega
  have HT2 := Lib.hid (And.intro (HB.out.2.2.2.mono hb2) (HB.out.2.2.1.mono hb2))
  have HQ2 := Lib.hid ((hb2.block _ (heap_lt HB.out.2.1)).trans HB.out.2.1)
  clear k0 k1 k2 k3 k4 hb2
  rcases walkedE_cases t o with ⟨hE, hW⟩ | ⟨hE, hS, hW⟩ | ⟨hE, hS, hW, hW2⟩
  · rw [hW]
    have hb : (openE t (t.order o) != 0) = true := by simpa using hE
    have HL : Hid (laterE t o = (0, openE t (t.order o))) := by unfold Hid laterE; rw [if_neg hE]
    clear hE hW
    go_wp2_with fail
    refine bodyPost_ret (results_tmp2 rfl _ _ _) rfl ?_
    exact ⟨by rw [HL.out]; rfl, HB2.out⟩
  · rw [hW]
    have HV := Lib.hid (openE_zero hE)
    have HF := Lib.hid (fit_of_valid HV.out.1)
    have HO := Lib.hid (order_view HV.out.2)
    have HE := Lib.hid hE
    have HS := Lib.hid hS
    have hD := HF.out.dawn
    obtain ⟨k0, k1, k2, k3, k4⟩ := tr_cells HQ2.out
    clear hE hS hW
    go_upto_region 7 with fail
    have hb3 : Below w2.heap.size w2 (w2.alloc (.cells (t.cells A) 25)) := (Below.refl _ _).alloc (Nat.le_refl _) _
    have q3 := World.alloc_heap_new w2 (.cells (t.cells A) 25)
    revert hb3 q3
    generalize w2.alloc (.cells (t.cells A) 25) = w3
    intro hb3 q3
    have HT3 := Lib.hid (And.intro (HT2.out.1.mono hb3) (HT2.out.2.mono hb3))
    have HQ3 := Lib.hid ((hb3.block _ (heap_lt HQ2.out)).trans HQ2.out)
    have HB3 := Lib.hid (HB2.out.trans (hb3.mono (show w.heap.size ≤ _ by omega)))
    have hsz3 : w2.heap.size < w3.heap.size := heap_lt q3
    have H3 := Lib.hid q3
    have HB23 := Lib.hid hb3
    clear hb3 q3 k0 k1 k2 k3 k4
    go_loopw [] (fun wr => ∃ (d : Int), t.dawn ≤ d ∧ d ≤ 1440 ∧ Hid ((t.on d).is true o = true) ∧ Hid (wr.heap[w2.heap.size]? = some (.cells ((t.on d).cells A) 25 (0, 0))) ∧ Hid (Below w2.heap.size w3 wr)) (fun wr => dawnAt wr w2.heap.size)
    case atStart => exact ⟨t.dawn, by omega, by omega, HS.out, H3.out, Below.refl _ _⟩
    case round =>
      obtain ⟨d, hd1, hd2, HSD, HXB, HBR⟩ := hrel
      have HBW := Lib.hid (HB3.out.trans (HBR.out.mono (show w.heap.size ≤ _ by omega)))
      have hz : w3.heap.size ≤ wr.heap.size := HBR.out.size
      have HMS : Hid (dawnAt wr w2.heap.size = (1440 - d).toNat) := by
        unfold Hid dawnAt
        rw [cell_of_heap HXB.out]
        rfl
      obtain ⟨k0, k1, k2, k3, k4⟩ := tr_cells (t := t.on d) HXB.out
      have b0 := lt_of_cell k0
      have fz : ∀ k, wr.frozen? ⟨w2.heap.size, k, none⟩ = false := fun k => frozen_of_heap HXB.out
      obtain ⟨g0, _, _, _, _⟩ := tr_cells ((HBR.out.block _ (by have := heap_lt HQ2.out; omega)).trans HQ3.out)
      have e0 : (t.on d).dawn = d := rfl
      have e1 : (t.on d).frm = t.frm := rfl
      have e2 : (t.on d).ways = t.ways := rfl
      have e3 : (t.on d).stay = t.stay := rfl
      have e4 : (t.on d).light = t.light := rfl
      rw [e0] at k0
      rw [e1] at k1
      rw [e2] at k2
      rw [e3] at k3
      rw [e4] at k4
      clear e0 e1 e2 e3 e4
      by_cases hlt : d < 1440
      · have hcd : decide (d < 1440) = true := by simpa using hlt
        have HQX : Hid ((wr.setCell ⟨w2.heap.size, 0, none⟩ (.int .i64 (d + 1))).heap[w2.heap.size]? = some (.cells ((t.on (d + 1)).cells A) 25 (0, 0))) := heap_setCell_at (k := 0) HXB.out _
        have HBX : Hid (Below w2.heap.size w3 (wr.setCell ⟨w2.heap.size, 0, none⟩ (.int .i64 (d + 1)))) := HBR.out.setCell (Nat.le_refl _) _
        have HTX : Hid (IsTr (wr.setCell ⟨w2.heap.size, 0, none⟩ (.int .i64 (d + 1))) t A ∧ IsInts (wr.setCell ⟨w2.heap.size, 0, none⟩ (.int .i64 (d + 1))) a o) :=
          ⟨HT2.out.1.mono (HB23.out.trans HBX.out), HT2.out.2.mono (HB23.out.trans HBX.out)⟩
        have HCL := Lib.hid (rsure51 (cap := cap) (on_tr HTX.out.1 (d + 1)) (on_fit HF.out (show 0 ≤ d + 1 ∧ d + 1 ≤ 1440 by omega)) hl HO.out HTX.out.2)
        have G0 := Lib.hid g0
        have HGX : Hid ((wr.setCell ⟨w2.heap.size, 0, none⟩ (.int .i64 (d + 1))).cell? ⟨w.heap.size, 0, none⟩ = some (.int .i64 t.dawn)) := by
          rw [Hid, cell_of_heap ((Below.heap_setCell _ _ _ _ (by show w.heap.size ≠ w2.heap.size; omega)).trans ((HBR.out.block _ (by have := heap_lt HQ2.out; omega)).trans HQ3.out))]; rfl
        clear g0
        go_wp2_with fail
        refine HCL.out.mono ?_
        rintro e w5 ⟨rfl, hb5⟩
        revert hb5 HQX HBX HGX
        generalize wr.setCell ⟨w2.heap.size, 0, none⟩ (.int .i64 (d + 1)) = X
        intro HQX HBX HGX hb5
        have hzx : w2.heap.size ≤ X.heap.size := by have := HBX.out.size; omega
        have HQ5 := Lib.hid ((hb5.block _ (heap_lt HQX.out)).trans HQX.out)
        have HB5 := Lib.hid (HBX.out.trans (hb5.mono hzx))
        have g5 := cell_stays hb5 HGX.out
        obtain ⟨u0, _, _, _, _⟩ := tr_cells HQ5.out
        have e0 : (t.on (d + 1)).dawn = d + 1 := rfl
        rw [e0] at u0
        clear hb5 k0 k1 k2 k3 k4 e0 fz HQX HBX HGX HTX HCL
        cases hs1 : (t.on (d + 1)).is true o
        · have HL := Lib.hid (later_at HE.out HS.out HSD.out (.inr ⟨hd2, hs1⟩))
          have HBZ := Lib.hid (HB3.out.trans (HB5.out.mono (show w.heap.size ≤ _ by omega)))
          clear hs1
          go_wp2_with fail
          refine bodyPost_ret (results_tmp2 rfl _ _ _) rfl ?_
          exact ⟨by rw [HL.out]; simp, HBZ.out⟩
        · have HS1 := Lib.hid hs1
          clear hs1
          go_wp2_with fail
          go_roundw
          case rel => exact ⟨d + 1, by omega, by omega, HS1.out, HQ5.out, HB5.out⟩
          case measure =>
            rw [HMS.out]
            unfold dawnAt
            rw [cell_of_heap HQ5.out]
            show (1440 - (d + 1)).toNat < _
            omega
      · obtain rfl : d = 1440 := by omega
        have HL := Lib.hid (later_at HE.out HS.out HSD.out (.inl rfl))
        go_wp2_with fail
        refine bodyPost_ret (results_tmp2 rfl _ _ _) rfl ?_
        exact ⟨by rw [HL.out]; rfl, HBW.out⟩
  · obtain ⟨X, hX⟩ : ∃ X : Int, X = (walkedE t o).1 := ⟨_, rfl⟩
    rw [hW2, ← hX]
    rw [← hX] at hW
    have hb : (X != 2) = true := by simpa using hW
    have HL : Hid (laterE t o = (0, 4)) := by unfold Hid laterE; rw [if_pos hE, hS]; rfl
    clear hE hS hW hW2 hX
    go_wp2_with fail
    refine bodyPost_ret (results_tmp2 rfl _ _ _) rfl ?_
    exact ⟨by rw [HL.out]; rfl, HB2.out⟩
end Go.Proofs.Ytphefhpmbahagaa
