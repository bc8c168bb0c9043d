/- The reference's Later: each minute is tried. The plain law of both. Far too long, or not. WalkOrders: the walk. -/
import Derived.Test.YtphefhpmbahagaaT32
import Derived.Test.YtphefhpmbahagaaT24
import Derived.Lib.MinMax
import Derived.Test.YtphefhpmbahagaaT50
namespace Go.Proofs.Ytphefhpmbahagaa
open Go.RowKit
set_option linter.unusedVariables false
set_option linter.unusedSimpArgs false

/-! ### the plain law -/
section
variable (n : Nat) (W L H S : Nat → Int)
/-- When one leaves for view i, if one sets out at d. -/
def fwT (d : Int) : Nat → Int
  | 0 => d
  | i + 1 => max (fwT d i + W i) (L i) + S i
def bwU : Nat → Int
  | 0 => 1440
  | k + 1 => (if k = 0 then H (n - 1 - k) else min (H (n - 1 - k)) (bwU k - S (n - 1 - k))) - W (n - 1 - k)
def fwOk (d : Int) : Prop := ∀ i, i < n → max (fwT W L S d i + W i) (L i) ≤ H i
theorem fw_le {d : Int} (h : fwOk n W L H S d) : ∀ k, 0 < k → k ≤ n → fwT W L S d (n - k) ≤ bwU n W H S k
  | 0, h0, _ => by omega
  | k + 1, _, hk => by
    have hi := h (n - 1 - k) (by omega)
    have e : n - (k + 1) = n - 1 - k := by omega
    rw [e, bwU]
    by_cases h0 : k = 0
    · rw [if_pos h0]; omega
    · rw [if_neg h0]
      have ih := fw_le h k (by omega) (by omega)
      have e2 : n - k = (n - 1 - k) + 1 := by omega
      rw [e2, fwT] at ih
      omega
theorem fw_back {d d' : Int} (h : fwOk n W L H S d) (hd : d' ≤ bwU n W H S n) : ∀ i, i < n → fwT W L S d' i ≤ bwU n W H S (n - i)
  | 0, _ => hd
  | i + 1, hi => by
    have ih := fw_back h hd i (by omega)
    have e : n - i = (n - (i + 1)) + 1 := by omega
    have e2 : n - 1 - (n - (i + 1)) = i := by omega
    have hk := fw_le n W L H S h (n - (i + 1)) (by omega) (by omega)
    rw [show n - (n - (i + 1)) = i + 1 by omega, fwT] at hk
    rw [e, bwU, e2, if_neg (by omega)] at ih
    rw [fwT]
    omega
theorem fw_iff {d : Int} (h : fwOk n W L H S d) (hn : 0 < n) (d' : Int) : fwOk n W L H S d' ↔ d' ≤ bwU n W H S n := by
  constructor
  · intro h'
    have := fw_le n W L H S h' n hn (Nat.le_refl _)
    rwa [Nat.sub_self] at this
  · intro hd i hi
    have h1 := fw_back n W L H S h hd i hi
    have h2 := h i hi
    have e : n - i = (n - 1 - i) + 1 := by omega
    have e2 : n - 1 - (n - 1 - i) = i := by omega
    rw [e, bwU, e2] at h1
    have h3 : fwT W L S d' i + W i ≤ H i := by
      split at h1 <;> omega
    omega
end
/-- A tour with another dawn. -/
def Tr.on (t : Tr) (d : Int) : Tr := { t with dawn := d }
theorem on_way (t : Tr) (d : Int) (o : List Int) : ∀ k, k ≤ o.length → (((t.on d).at_ o k).1 = (t.at_ o k).1)
  | 0, _ => rfl
  | k + 1, h => by rw [at_succ _ (by omega), at_succ _ (by omega)]; rfl
theorem on_wayAt (t : Tr) (d : Int) {o : List Int} {k : Nat} (h : k ≤ o.length) : (t.on d).wayAt o k = t.wayAt o k := by
  unfold Tr.wayAt
  rw [on_way t d o k h]
  rfl
theorem on_fw (t : Tr) (d : Int) (o : List Int) : ∀ k, k ≤ o.length → ((t.on d).at_ o k).2.2 = fwT (fun i => (t.wayAt o i).hi) (fun i => (gs t.light (gi o i).toNat).lo) (fun i => (gs t.stay (gi o i).toNat).hi) d k
  | 0, _ => rfl
  | k + 1, h => by
    rw [at_succ _ (by omega), fwT, ← on_fw t d o k (by omega), ← on_wayAt t d (show k ≤ o.length by omega)]
    rfl
theorem on_sure (t : Tr) (d : Int) (o : List Int) : (t.on d).is true o = true ↔ fwOk o.length (fun i => (t.wayAt o i).hi) (fun i => (gs t.light (gi o i).toNat).lo) (fun i => (gs t.light (gi o i).toNat).hi) (fun i => (gs t.stay (gi o i).toNat).hi) d := by
  rw [← inL_is, Tr.inL, List.all_eq_true]
  constructor
  · intro h i hi
    have := h i (by simp [hi])
    rw [mins_at _ _ hi, ← minAt_max, on_wayAt t d (Nat.le_of_lt hi)] at this
    simp only [decide_eq_true_eq] at this
    rw [← on_fw t d o i (Nat.le_of_lt hi)]
    exact this
  · intro h i hi
    have hi : i < o.length := by simpa using hi
    have := h i hi
    rw [← on_fw t d o i (Nat.le_of_lt hi)] at this
    rw [mins_at _ _ hi, ← minAt_max, on_wayAt t d (Nat.le_of_lt hi)]
    simp only [decide_eq_true_eq]
    exact this
theorem until_bw (t : Tr) (o : List Int) : ∀ k, t.untilA o k = bwU o.length (fun i => (t.wayAt o i).hi) (fun i => (gs t.light (gi o i).toNat).hi) (fun i => (gs t.stay (gi o i).toNat).hi) k
  | 0 => rfl
  | k + 1 => by rw [Tr.untilA, bwU, ← until_bw t o k]; rfl
theorem on_self (t : Tr) : t.on t.dawn = t := rfl
/-- Just the dawns that are not after the last one that can be are sure. -/
theorem sure_until {t : Tr} {o : List Int} (h : t.is true o = true) (hn : 0 < o.length) (d : Int) : (t.on d).is true o = true ↔ d ≤ t.untilA o o.length := by
  rw [on_sure, until_bw]
  exact fw_iff _ _ _ _ _ ((on_sure t t.dawn o).1 h) hn d
theorem later_at {t : Tr} {o : List Int} (hE : openE t (t.order o) = 0) (h : t.is true o = true) {d : Int} (hd : (t.on d).is true o = true) (hl : d = 1440 ∨ (d ≤ 1440 ∧ (t.on (d + 1)).is true o = false)) : laterE t o = (d - t.dawn, 0) := by
  have hm : min (t.untilA o o.length) 1440 = d := by
    by_cases hn : 0 < o.length
    · have h1 := (sure_until h hn d).1 hd
      rcases hl with rfl | ⟨h2, h3⟩
      · omega
      · have h4 : ¬ (d + 1 ≤ t.untilA o o.length) := fun e => by rw [(sure_until h hn (d + 1)).2 e] at h3; cases h3
        omega
    · have h0 : o = [] := List.eq_nil_of_length_eq_zero (by omega)
      subst h0
      have h5 : ∀ d, (t.on d).is true [] = true := fun d => rfl
      rcases hl with rfl | ⟨h2, h3⟩
      · rfl
      · rw [h5] at h3; cases h3
  unfold laterE
  rw [if_pos hE, if_pos h, hm]
theorem on_fit {t : Tr} (hF : t.Fit) {d : Int} (h : 0 ≤ d ∧ d ≤ 1440) : (t.on d).Fit := ⟨hF.n, h, hF.ways, hF.stay, hF.light, hF.rows, hF.okf, hF.oks, hF.okl, hF.okw⟩
theorem on_tr {t : Tr} {A : TrA} {w : World} (h : IsTr w t A) (d : Int) : IsTr w (t.on d) A := ⟨h.frm, h.ways, h.stay, h.light⟩
theorem walkedE_cases (t : Tr) (o : List Int) : (openE t (t.order o) ≠ 0 ∧ walkedE t o = (0, openE t (t.order o))) ∨ (openE t (t.order o) = 0 ∧ t.is true o = true ∧ walkedE t o = (2, 0)) ∨ (openE t (t.order o) = 0 ∧ t.is true o = false ∧ (walkedE t o).1 ≠ 2 ∧ (walkedE t o).2 = 0) := by
  by_cases h : openE t (t.order o) = 0
  · cases hs : t.is true o
    · refine .inr (.inr ⟨h, rfl, ?_, ?_⟩)
      · unfold walkedE; rw [if_pos h, hs]
        cases t.is false o <;> simp
      · unfold walkedE; rw [if_pos h]
    · exact .inr (.inl ⟨h, rfl, by unfold walkedE; rw [if_pos h, hs]; rfl⟩)
  · exact .inl ⟨h, by unfold walkedE; rw [if_neg h]⟩

/-! ### the walk -/
def dawnAt (wr : World) (xb : Nat) : Nat := (1440 - intOf ((wr.cell? ⟨xb, 0, none⟩).getD undef)).toNat
set_option maxRecDepth 100000 in
set_option maxHeartbeats 4000000 in
theorem rlater21 {t : Tr} {A : TrA} {w : World} (ht : IsTr w t A) (hs : t.Small) {o : List Int} (hl : o.length ≤ 16) {a : Option Addr} {cap : Nat} (ha : IsInts w a o) :
    Calls Try.prog 21 #[t.v A, .slice a o.length cap] w fun e w' => e = .returned (.tuple #[.int .i64 (laterE t o).1, .int .i64 (laterE t o).2]) ∧ Below w.heap.size w w' := by
  have hbw : Below w.heap.size w (w.alloc (.cells (t.cells A) 25)) := (Below.refl _ w).alloc (Nat.le_refl _) _
  have hq := World.alloc_heap_new w (.cells (t.cells A) 25)
  have HB := Lib.hid (And.intro hbw (And.intro hq (And.intro (ha.mono hbw) (ht.mono hbw))))
  have HSM := Lib.hid hs
  have HSZ : Hid (w.heap.size + 1 ≤ (w.alloc (.cells (t.cells A) 25)).heap.size) := by simp [Hid]
  clear hbw hq ha ht hs
  go_enter Try.func21, Try.ntmps21
  go_upto_region 1 with fail
  revert HB HSZ
  generalize (w.alloc (.cells (t.cells A) 25)) = w1
  intro HB HSZ
  obtain ⟨k0, k1, k2, k3, k4⟩ := tr_cells HB.out.2.1
  go_wp2_with fail
  refine (rwalked15 (cap := cap) HB.out.2.2.2 HSM.out hl HB.out.2.2.1).mono ?_
  rintro e w2 ⟨rfl, hb2⟩
  have HB2 := Lib.hid (HB.out.1.trans (hb2.mono (show w.heap.size ≤ _ from by have := HSZ.out; omega)))
  have hsz2 : w.heap.size + 1 ≤ w2.heap.size := by have := HSZ.out; have := hb2.size; omega
  have HT2 := Lib.hid (And.intro (HB.out.2.2.2.mono hb2) (HB.out.2.2.1.mono hb2))
  have HQ2 := Lib.hid ((hb2.block _ (heap_lt HB.out.2.1)).trans HB.out.2.1)
  clear k0 k1 k2 k3 k4 hb2
  rcases walkedE_cases t o with ⟨hE, hW⟩ | ⟨hE, hS, hW⟩ | ⟨hE, hS, hW, hW2⟩
  · rw [hW]
    have hb : (openE t (t.order o) != 0) = true := by simpa using hE
    have HL : Hid (laterE t o = (0, openE t (t.order o))) := by unfold Hid laterE; rw [if_neg hE]
    clear hE hW
    go_wp2_with fail
    refine bodyPost_ret (results_tmp2 rfl _ _ _) rfl ?_
    exact ⟨by rw [HL.out]; rfl, HB2.out⟩
  · rw [hW]
    have HV := Lib.hid (openE_zero hE)
    have HF := Lib.hid (fit_of_valid HV.out.1)
    have HO := Lib.hid (order_view HV.out.2)
    have HE := Lib.hid hE
    have HS := Lib.hid hS
    have hD := HF.out.dawn
    obtain ⟨k0, k1, k2, k3, k4⟩ := tr_cells HQ2.out
    clear hE hS hW
    go_upto_region 7 with fail
    have hb3 : Below w2.heap.size w2 (w2.alloc (.cells (t.cells A) 25)) := (Below.refl _ _).alloc (Nat.le_refl _) _
    have q3 := World.alloc_heap_new w2 (.cells (t.cells A) 25)
    revert hb3 q3
    generalize w2.alloc (.cells (t.cells A) 25) = w3
    intro hb3 q3
    have HT3 := Lib.hid (And.intro (HT2.out.1.mono hb3) (HT2.out.2.mono hb3))
    have HQ3 := Lib.hid ((hb3.block _ (heap_lt HQ2.out)).trans HQ2.out)
    have HB3 := Lib.hid (HB2.out.trans (hb3.mono (show w.heap.size ≤ _ by omega)))
    have hsz3 : w2.heap.size < w3.heap.size := heap_lt q3
    have H3 := Lib.hid q3
    have HB23 := Lib.hid hb3
    clear hb3 q3 k0 k1 k2 k3 k4
    go_loopw [] (fun wr => ∃ (d : Int), t.dawn ≤ d ∧ d ≤ 1440 ∧ Hid ((t.on d).is true o = true) ∧ Hid (wr.heap[w2.heap.size]? = some (.cells ((t.on d).cells A) 25 (0, 0))) ∧ Hid (Below w2.heap.size w3 wr)) (fun wr => dawnAt wr w2.heap.size)
    case atStart => exact ⟨t.dawn, by omega, by omega, HS.out, H3.out, Below.refl _ _⟩
    case round =>
      obtain ⟨d, hd1, hd2, HSD, HXB, HBR⟩ := hrel
      have HBW := Lib.hid (HB3.out.trans (HBR.out.mono (show w.heap.size ≤ _ by omega)))
      have hz : w3.heap.size ≤ wr.heap.size := HBR.out.size
      have HMS : Hid (dawnAt wr w2.heap.size = (1440 - d).toNat) := by
        unfold Hid dawnAt
        rw [cell_of_heap HXB.out]
        rfl
      obtain ⟨k0, k1, k2, k3, k4⟩ := tr_cells (t := t.on d) HXB.out
      have b0 := lt_of_cell k0
      have fz : ∀ k, wr.frozen? ⟨w2.heap.size, k, none⟩ = false := fun k => frozen_of_heap HXB.out
      obtain ⟨g0, _, _, _, _⟩ := tr_cells ((HBR.out.block _ (by have := heap_lt HQ2.out; omega)).trans HQ3.out)
      have e0 : (t.on d).dawn = d := rfl
      have e1 : (t.on d).frm = t.frm := rfl
      have e2 : (t.on d).ways = t.ways := rfl
      have e3 : (t.on d).stay = t.stay := rfl
      have e4 : (t.on d).light = t.light := rfl
      rw [e0] at k0
      rw [e1] at k1
      rw [e2] at k2
      rw [e3] at k3
      rw [e4] at k4
      clear e0 e1 e2 e3 e4
      by_cases hlt : d < 1440
      · have hcd : decide (d < 1440) = true := by simpa using hlt
        have HQX : Hid ((wr.setCell ⟨w2.heap.size, 0, none⟩ (.int .i64 (d + 1))).heap[w2.heap.size]? = some (.cells ((t.on (d + 1)).cells A) 25 (0, 0))) := heap_setCell_at (k := 0) HXB.out _
        have HBX : Hid (Below w2.heap.size w3 (wr.setCell ⟨w2.heap.size, 0, none⟩ (.int .i64 (d + 1)))) := HBR.out.setCell (Nat.le_refl _) _
        have HTX : Hid (IsTr (wr.setCell ⟨w2.heap.size, 0, none⟩ (.int .i64 (d + 1))) t A ∧ IsInts (wr.setCell ⟨w2.heap.size, 0, none⟩ (.int .i64 (d + 1))) a o) :=
          ⟨HT2.out.1.mono (HB23.out.trans HBX.out), HT2.out.2.mono (HB23.out.trans HBX.out)⟩
        have HCL := Lib.hid (rsure51 (cap := cap) (on_tr HTX.out.1 (d + 1)) (on_fit HF.out (show 0 ≤ d + 1 ∧ d + 1 ≤ 1440 by omega)) hl HO.out HTX.out.2)
        have G0 := Lib.hid g0
        have HGX : Hid ((wr.setCell ⟨w2.heap.size, 0, none⟩ (.int .i64 (d + 1))).cell? ⟨w.heap.size, 0, none⟩ = some (.int .i64 t.dawn)) := by
          rw [Hid, cell_of_heap ((Below.heap_setCell _ _ _ _ (by show w.heap.size ≠ w2.heap.size; omega)).trans ((HBR.out.block _ (by have := heap_lt HQ2.out; omega)).trans HQ3.out))]; rfl
        clear g0
        go_wp2_with fail
        refine HCL.out.mono ?_
        rintro e w5 ⟨rfl, hb5⟩
        revert hb5 HQX HBX HGX
        generalize wr.setCell ⟨w2.heap.size, 0, none⟩ (.int .i64 (d + 1)) = X
        intro HQX HBX HGX hb5
        have hzx : w2.heap.size ≤ X.heap.size := by have := HBX.out.size; omega
        have HQ5 := Lib.hid ((hb5.block _ (heap_lt HQX.out)).trans HQX.out)
        have HB5 := Lib.hid (HBX.out.trans (hb5.mono hzx))
        have g5 := cell_stays hb5 HGX.out
        obtain ⟨u0, _, _, _, _⟩ := tr_cells HQ5.out
        have e0 : (t.on (d + 1)).dawn = d + 1 := rfl
        rw [e0] at u0
        clear hb5 k0 k1 k2 k3 k4 e0 fz HQX HBX HGX HTX HCL
        cases hs1 : (t.on (d + 1)).is true o
        · have HL := Lib.hid (later_at HE.out HS.out HSD.out (.inr ⟨hd2, hs1⟩))
          have HBZ := Lib.hid (HB3.out.trans (HB5.out.mono (show w.heap.size ≤ _ by omega)))
          clear hs1
          go_wp2_with fail
          refine bodyPost_ret (results_tmp2 rfl _ _ _) rfl ?_
          exact ⟨by rw [HL.out]; simp, HBZ.out⟩
        · have HS1 := Lib.hid hs1
          clear hs1
          go_wp2_with fail
          go_roundw
          case rel => exact ⟨d + 1, by omega, by omega, HS1.out, HQ5.out, HB5.out⟩
          case measure =>
            rw [HMS.out]
            unfold dawnAt
            rw [cell_of_heap HQ5.out]
            show (1440 - (d + 1)).toNat < _
            omega
      · obtain rfl : d = 1440 := by omega
        have HL := Lib.hid (later_at HE.out HS.out HSD.out (.inl rfl))
        go_wp2_with fail
        refine bodyPost_ret (results_tmp2 rfl _ _ _) rfl ?_
        exact ⟨by rw [HL.out]; rfl, HBW.out⟩
  · obtain ⟨X, hX⟩ : ∃ X : Int, X = (walkedE t o).1 := ⟨_, rfl⟩
    rw [hW2, ← hX]
    rw [← hX] at hW
    have hb : (X != 2) = true := by simpa using hW
    have HL : Hid (laterE t o = (0, 4)) := by unfold Hid laterE; rw [if_pos hE, hS]; rfl
    clear hE hS hW hW2 hX
    go_wp2_with fail
    refine bodyPost_ret (results_tmp2 rfl _ _ _) rfl ?_
    exact ⟨by rw [HL.out]; rfl, HB2.out⟩
end Go.Proofs.Ytphefhpmbahagaa

namespace Go.Proofs.Ytphefhpmbahagaa
open Go.RowKit
set_option linter.unusedVariables false
set_option linter.unusedSimpArgs false

def max5 (a b c d e : Nat) : Nat := max (max (max (max a b) c) d) e
@[local go_sem high] theorem run_max5 {P : Program} (w : World) (ts : Array TypeId) (t : TypeId) (a b c d e : Nat) :
    (Builtin.max_ ts t #[.int .i64 (a : Int), .int .i64 (b : Int), .int .i64 (c : Int), .int .i64 (d : Int), .int .i64 (e : Int)]).run P w = .ok (.int .i64 ((max5 a b c d e : Nat) : Int)) w := by
  have h : ∀ x y : Nat, Builtin.max2 (.int .i64 (x : Int)) (.int .i64 (y : Int)) = pure (.int .i64 ((max x y : Nat) : Int)) := fun x y => by
    have e : (if (y : Int) > (x : Int) then (y : Int) else (x : Int)) = ((max x y : Nat) : Int) := by split <;> omega
    simp only [Builtin.max2, e]
  simp only [Builtin.max_, List.foldlM, h, Sem.run_bind, Sem.run_pure, Result.andThen_ok]
  rfl
/-- The longest of the lists. -/
def mostW (l : List (List Spn)) (m : Nat) : Nat := l.foldl (fun m r => max m r.length) m
theorem mostW_step {l : List (List Spn)} {m k : Nat} (hk : k < l.length) : mostW (l.take (k + 1)) m = max (mostW (l.take k) m) (gw l k).length := by
  have e : l.take (k + 1) = l.take k ++ [gw l k] := by rw [List.take_add_one, gw_at hk]; rfl
  rw [mostW, e, List.foldl_append]
  rfl
theorem mostW_le : ∀ (l : List (List Spn)) (m n : Nat), mostW l m ≤ n ↔ m ≤ n ∧ ∀ r ∈ l, r.length ≤ n
  | [], m, n => by simp [mostW]
  | x :: r, m, n => by
    have := mostW_le r (max m x.length) n
    rw [mostW] at this ⊢
    rw [List.foldl_cons, this]
    simp only [List.mem_cons, forall_eq_or_imp, Nat.max_le, and_assoc]
def Tr.most (t : Tr) (o : List Int) : Nat := mostW t.ways (max5 t.frm.length t.ways.length t.stay.length t.light.length o.length)
theorem most_small {t : Tr} {o : List Int} (h : t.most o ≤ 16) : t.Small ∧ o.length ≤ 16 := by
  have h := (mostW_le _ _ _).1 h
  have h1 := h.1
  unfold max5 at h1
  exact ⟨⟨by omega, by omega, by omega, by omega, h.2⟩, by omega⟩
def Tr.great (t : Tr) (o : List Int) (m : Nat) : Bool := decide (16 < t.most o) || (decide (m < t.frm.length) && t.valid)
theorem great_no {t : Tr} {o : List Int} {m : Nat} (h : t.great o m = false) : t.Small ∧ o.length ≤ 16 ∧ ¬(m < t.frm.length ∧ t.valid = true) := by
  unfold Tr.great at h
  simp only [Bool.or_eq_false_iff, decide_eq_false_iff_not, Bool.and_eq_false_iff] at h
  have h2 := most_small (t := t) (o := o) (by omega)
  refine ⟨h2.1, h2.2, fun hh => ?_⟩
  rcases h.2 with h3 | h3
  · exact h3 hh.1
  · rw [hh.2] at h3; cases h3
set_option maxRecDepth 100000 in
set_option maxHeartbeats 4000000 in
theorem great12 {t : Tr} {A : TrA} {w : World} (ht : IsTr w t A) {o : List Int} {a : Option Addr} {cap : Nat} (hw : t.ways.length ≤ 9223372036854775807) (m : Nat) :
    Calls Try.prog 12 #[t.v A, .slice a o.length cap, .int .i64 m] w fun e w' => e = .returned (.bool (t.great o m)) ∧ Below w.heap.size w w' := by
  have hb : Below w.heap.size w (w.alloc (.cells (t.cells A) 25)) := (Below.refl _ w).alloc (Nat.le_refl _) _
  have hq := World.alloc_heap_new w (.cells (t.cells A) 25)
  have HB := Lib.hid (And.intro hb (And.intro hq (ht.mono hb)))
  have HM : Hid (t.most o = mostW t.ways (max5 t.frm.length t.ways.length t.stay.length t.light.length o.length)) := rfl
  clear hb hq ht
  go_enter Try.func12, Try.ntmps12
  go_upto_region 1 with fail
  revert HB
  generalize (w.alloc (.cells (t.cells A) 25)) = w1
  intro HB
  obtain ⟨k0, k1, k2, k3, k4⟩ := tr_cells HB.out.2.1
  go_wp2_with fail
  revert HM
  generalize max5 t.frm.length t.ways.length t.stay.length t.light.length o.length = M0
  intro HM
  go_loopw [7, 9, 28] (fun v7 _ i wr => ∃ k : Nat, k ≤ t.ways.length ∧ i = .int .i64 k ∧ wr = w1 ∧ ∃ M : Nat, v7 = .int .i64 M ∧ Hid (M = mostW (t.ways.take k) M0)) (fun _ _ i _ => t.ways.length - (intOf i).toNat)
  case atStart => exact ⟨0, by omega, rfl, rfl, M0, rfl, rfl⟩
  case round =>
    obtain ⟨k, hk, rfl, rfl, M, rfl, HMk⟩ := hrel
    by_cases hlt : k < t.ways.length
    · obtain ⟨wb, wo, w0, ai, ci, c0, _⟩ := HB.out.2.2.ways k hlt
      rw [w0] at k2
      have HS := Lib.hid (mostW_step (m := M0) hlt)
      go_wp2_with fail
      go_roundw
      case rel => exact ⟨k + 1, by omega, by go_num, (by first | trivial | rfl), max M (gw t.ways k).length, by go_num, by rw [Hid, HMk.out, HS.out]⟩
      case measure => simp [intOf]; omega
    · obtain rfl : k = t.ways.length := by omega
      have HM2 : Hid (t.most o = M) := by rw [Hid, HM.out, HMk.out, List.take_length]
      clear HM HMk
      by_cases h16 : 16 < M
      · go_wp2_with fail
        go_ret
        refine ⟨ret_bool ?_, HB.out.1⟩
        rw [Tr.great, HM2.out]
        simp [h16]
      · have HSM := Lib.hid (most_small (t := t) (o := o) (by rw [HM2.out]; omega)).1
        by_cases hf : m < t.frm.length
        · go_wp2_with fail
          refine (rtour33 HB.out.2.2 HSM.out).mono ?_
          rintro e w3 ⟨rfl, hb3⟩
          have HB3 := Lib.hid (HB.out.1.trans (hb3.mono HB.out.1.size))
          clear hb3
          go_wp2_with fail
          go_ret
          refine ⟨ret_bool ?_, HB3.out⟩
          rw [Tr.great, HM2.out]
          first | (simp [h16, hf]; done) | (simp [h16, hf]; omega)
        · go_wp2_with fail
          go_ret
          refine ⟨ret_bool ?_, HB.out.1⟩
          rw [Tr.great, HM2.out]
          first | (simp [h16, hf]; done) | (simp [h16, hf]; omega)
end Go.Proofs.Ytphefhpmbahagaa

namespace Go.Proofs.Ytphefhpmbahagaa
open Go.RowKit
set_option linter.unusedVariables false
set_option linter.unusedSimpArgs false

theorem timesE_len (t : Tr) (o : List Int) : (timesE t o).1.length ≤ o.length := by
  unfold timesE
  split
  all_goals simp [times_len]
set_option maxRecDepth 100000 in
set_option maxHeartbeats 4000000 in
theorem walkOrders_any {t : Tr} {A : TrA} {w : World} (ht : IsTr w t A) (hw : t.ways.length ≤ 9223372036854775807) {o : List Int} {a : Option Addr} {cap : Nat} (ha : IsInts w a o) :
    Calls Try.prog 3 #[t.v A, .slice a o.length cap] w fun e w' => e = .returned (.bool true) ∧ Below w.heap.size w w' := by
  have hb0 : Below w.heap.size w (w.alloc (.cells (t.cells A) 25)) := (Below.refl _ w).alloc (Nat.le_refl _) _
  have q0 := World.alloc_heap_new w (.cells (t.cells A) 25)
  have HW := Lib.hid (And.intro hb0 (And.intro q0 (And.intro (ht.mono hb0) (ha.mono hb0))))
  have HG : Hid (∀ v, IsTr v t A → Calls Try.prog 12 #[t.v A, .slice a o.length cap, .int .i64 6] v fun e w' => e = .returned (.bool (t.great o 6)) ∧ Below v.heap.size v w') := fun v h => great12 h hw 6
  clear hb0 q0 ha ht hw
  go_enter Try.func3, Try.ntmps3
  go_upto_region 1 with fail
  revert HW
  generalize w.alloc (.cells (t.cells A) 25) = w1
  intro HW
  have KP : Hid (∀ v, Below w1.heap.size w1 v → v.heap[w.heap.size]? = some (.cells (t.cells A) 25 (0, 0)) ∧ IsTr v t A ∧ IsInts v a o ∧ Below w.heap.size w v) := fun v h => ⟨(h.block _ (heap_lt HW.out.2.1)).trans HW.out.2.1, HW.out.2.2.1.mono h, HW.out.2.2.2.mono h, HW.out.1.trans (h.mono HW.out.1.size)⟩
  have HB := Lib.hid (Below.refl w1.heap.size w1)
  obtain ⟨k0, k1, k2, k3, k4⟩ := tr_cells (KP.out w1 HB.out).1
  go_wp2_with fail
  refine (HG.out _ (KP.out w1 HB.out).2.1).mono ?_
  rintro e b0 ⟨rfl, hb⟩
  have HX := Lib.hid hb
  clear hb HB HG k0 k1 k2 k3 k4
  have HB := HX
  clear HX
  cases hg : t.great o 6
  case true =>
    go_wp2_with fail
    refine (alive13 _).mono ?_
    rintro e c1 ⟨rfl, hb⟩
    have HX := Lib.hid (HB.out.trans (hb.mono HB.out.size))
    clear hb
    go_wp2_with fail
    go_ret
    exact ⟨rfl, (KP.out _ HX.out).2.2.2⟩
  have HN := Lib.hid (great_no hg)
  clear hg
  rcases h1 : walkedE t o with ⟨p1, p2⟩
  rcases h2 : timesE t o with ⟨tl, ⟨s1, s2⟩, te⟩
  rcases h3 : lateE t o with ⟨q1, qb, q2⟩
  rcases h4 : laterE t o with ⟨r1, r2⟩
  have HTL : Hid (tl.length ≤ 30) := by
    have := timesE_len t o
    rw [h2] at this
    have h30 := HN.out.2.1
    have this : tl.length ≤ o.length := this
    show tl.length ≤ 30
    omega
  have C14 : Hid (∀ v, Below w1.heap.size w1 v → Calls Try.prog 14 #[t.v A, .slice a o.length cap] v fun e w' => e = .returned (.tuple #[.int .i64 p1, .int .i64 p2]) ∧ Below v.heap.size v w') := fun v h => by
    have := walked14 (cap := cap) (KP.out v h).2.1 HN.out.1 HN.out.2.1 (KP.out v h).2.2.1
    rw [h1] at this; exact this
  have C15 : Hid (∀ v, Below w1.heap.size w1 v → Calls Try.prog 15 #[t.v A, .slice a o.length cap] v fun e w' => e = .returned (.tuple #[.int .i64 p1, .int .i64 p2]) ∧ Below v.heap.size v w') := fun v h => by
    have := rwalked15 (cap := cap) (KP.out v h).2.1 HN.out.1 HN.out.2.1 (KP.out v h).2.2.1
    rw [h1] at this; exact this
  have C16 : Hid (∀ v, Below w1.heap.size w1 v → Calls Try.prog 16 #[t.v A, .slice a o.length cap] v fun e w' => ∃ av cv, e = .returned (.tuple #[.slice av tl.length cv, .agg #[.int .i64 s1, .int .i64 s2], .int .i64 te]) ∧ IsSpns w' av tl ∧ Below v.heap.size v w') := fun v h => by
    have := times16 (cap := cap) (KP.out v h).2.1 HN.out.1 HN.out.2.1 (KP.out v h).2.2.1
    rw [h2] at this; exact this
  have C17 : Hid (∀ v, Below w1.heap.size w1 v → Calls Try.prog 17 #[t.v A, .slice a o.length cap] v fun e w' => ∃ av cv, e = .returned (.tuple #[.slice av tl.length cv, .agg #[.int .i64 s1, .int .i64 s2], .int .i64 te]) ∧ IsSpns w' av tl ∧ Below v.heap.size v w') := fun v h => by
    have := rtimes17 (cap := cap) (KP.out v h).2.1 HN.out.1 HN.out.2.1 (KP.out v h).2.2.1
    rw [h2] at this; exact this
  have C18 : Hid (∀ v, Below w1.heap.size w1 v → Calls Try.prog 18 #[t.v A, .slice a o.length cap] v fun e w' => e = .returned (.tuple #[.int .i64 q1, .bool qb, .int .i64 q2]) ∧ Below v.heap.size v w') := fun v h => by
    have := late18 (cap := cap) (KP.out v h).2.1 HN.out.1 HN.out.2.1 (KP.out v h).2.2.1
    rw [h3] at this; exact this
  have C19 : Hid (∀ v, Below w1.heap.size w1 v → Calls Try.prog 19 #[t.v A, .slice a o.length cap] v fun e w' => e = .returned (.tuple #[.int .i64 q1, .bool qb, .int .i64 q2]) ∧ Below v.heap.size v w') := fun v h => by
    have := rlate19 (cap := cap) (KP.out v h).2.1 HN.out.1 HN.out.2.1 (KP.out v h).2.2.1
    rw [h3] at this; exact this
  have C20 : Hid (∀ v, Below w1.heap.size w1 v → Calls Try.prog 20 #[t.v A, .slice a o.length cap] v fun e w' => e = .returned (.tuple #[.int .i64 r1, .int .i64 r2]) ∧ Below v.heap.size v w') := fun v h => by
    have := later20 (cap := cap) (KP.out v h).2.1 HN.out.1 HN.out.2.1 (KP.out v h).2.2.1
    rw [h4] at this; exact this
  have C21 : Hid (∀ v, Below w1.heap.size w1 v → Calls Try.prog 21 #[t.v A, .slice a o.length cap] v fun e w' => e = .returned (.tuple #[.int .i64 r1, .int .i64 r2]) ∧ Below v.heap.size v w') := fun v h => by
    have := rlater21 (cap := cap) (KP.out v h).2.1 HN.out.1 HN.out.2.1 (KP.out v h).2.2.1
    rw [h4] at this; exact this
  clear h1 h2 h3 h4 HN
  obtain ⟨k0, k1, k2, k3, k4⟩ := tr_cells (KP.out b0 HB.out).1
  go_wp2_with fail
  refine (C14.out _ HB.out).mono ?_
  rintro e b1 ⟨rfl, hb⟩
  have HX := Lib.hid (HB.out.trans (hb.mono HB.out.size))
  clear hb HB C14 k0 k1 k2 k3 k4
  have HB := HX
  clear HX
  obtain ⟨k0, k1, k2, k3, k4⟩ := tr_cells (KP.out b1 HB.out).1
  go_wp2_with fail
  refine (C15.out _ HB.out).mono ?_
  rintro e b2 ⟨rfl, hb⟩
  have HX := Lib.hid (HB.out.trans (hb.mono HB.out.size))
  clear hb HB C15 k0 k1 k2 k3 k4
  have HB := HX
  clear HX
  obtain ⟨k0, k1, k2, k3, k4⟩ := tr_cells (KP.out b2 HB.out).1
  go_wp2_with fail
  refine (C16.out _ HB.out).mono ?_
  rintro e b3 ⟨av1, cv1, rfl, hs1, hb⟩
  have HX := Lib.hid (And.intro (HB.out.trans (hb.mono HB.out.size)) hs1)
  clear hb HB C16 k0 k1 k2 k3 k4 hs1
  have HB := HX
  clear HX
  go_upto_region 6 with fail
  have q7 := World.alloc_heap_new b3 (.cells #[.int .i64 s1, .int .i64 s2] 33)
  have hb7 : Below b3.heap.size b3 (b3.alloc (.cells #[.int .i64 s1, .int .i64 s2] 33)) := (Below.refl _ _).alloc (Nat.le_refl _) _
  have HX := Lib.hid (And.intro (HB.out.1.trans (hb7.mono HB.out.1.size)) (And.intro (HB.out.2.mono hb7) q7))
  clear q7 hb7 HB
  have HB := HX
  clear HX
  revert HB
  generalize (b3.alloc (.cells #[.int .i64 s1, .int .i64 s2] 33)) = c1
  generalize b3.heap.size = pb1
  intro HB
  obtain ⟨k0, k1, k2, k3, k4⟩ := tr_cells (KP.out c1 HB.out.1).1
  go_wp2_with fail
  refine (C17.out _ HB.out.1).mono ?_
  rintro e b4 ⟨av2, cv2, rfl, hs2, hb⟩
  have HX := Lib.hid (And.intro (HB.out.1.trans (hb.mono HB.out.1.size)) (And.intro (HB.out.2.1.mono hb) (And.intro ((hb.block _ (heap_lt HB.out.2.2)).trans HB.out.2.2) hs2)))
  clear hb HB C17 k0 k1 k2 k3 k4 hs2
  have HB := HX
  clear HX
  go_upto_region 7 with fail
  have q7 := World.alloc_heap_new b4 (.cells #[.int .i64 s1, .int .i64 s2] 33)
  have hb7 : Below b4.heap.size b4 (b4.alloc (.cells #[.int .i64 s1, .int .i64 s2] 33)) := (Below.refl _ _).alloc (Nat.le_refl _) _
  have HX := Lib.hid (And.intro (HB.out.1.trans (hb7.mono HB.out.1.size)) (And.intro (HB.out.2.1.mono hb7) (And.intro ((hb7.block _ (heap_lt HB.out.2.2.1)).trans HB.out.2.2.1) (And.intro (HB.out.2.2.2.mono hb7) q7))))
  clear q7 hb7 HB
  have HB := HX
  clear HX
  revert HB
  generalize (b4.alloc (.cells #[.int .i64 s1, .int .i64 s2] 33)) = c2
  generalize b4.heap.size = pb2
  intro HB
  obtain ⟨k0, k1, k2, k3, k4⟩ := tr_cells (KP.out c2 HB.out.1).1
  go_wp2_with fail
  refine (C18.out _ HB.out.1).mono ?_
  rintro e b5 ⟨rfl, hb⟩
  have HX := Lib.hid (And.intro (HB.out.1.trans (hb.mono HB.out.1.size)) (And.intro (HB.out.2.1.mono hb) (And.intro ((hb.block _ (heap_lt HB.out.2.2.1)).trans HB.out.2.2.1) (And.intro (HB.out.2.2.2.1.mono hb) ((hb.block _ (heap_lt HB.out.2.2.2.2)).trans HB.out.2.2.2.2)))))
  clear hb HB C18 k0 k1 k2 k3 k4
  have HB := HX
  clear HX
  obtain ⟨k0, k1, k2, k3, k4⟩ := tr_cells (KP.out b5 HB.out.1).1
  go_wp2_with fail
  refine (C19.out _ HB.out.1).mono ?_
  rintro e b6 ⟨rfl, hb⟩
  have HX := Lib.hid (And.intro (HB.out.1.trans (hb.mono HB.out.1.size)) (And.intro (HB.out.2.1.mono hb) (And.intro ((hb.block _ (heap_lt HB.out.2.2.1)).trans HB.out.2.2.1) (And.intro (HB.out.2.2.2.1.mono hb) ((hb.block _ (heap_lt HB.out.2.2.2.2)).trans HB.out.2.2.2.2)))))
  clear hb HB C19 k0 k1 k2 k3 k4
  have HB := HX
  clear HX
  obtain ⟨k0, k1, k2, k3, k4⟩ := tr_cells (KP.out b6 HB.out.1).1
  go_wp2_with fail
  refine (C20.out _ HB.out.1).mono ?_
  rintro e b7 ⟨rfl, hb⟩
  have HX := Lib.hid (And.intro (HB.out.1.trans (hb.mono HB.out.1.size)) (And.intro (HB.out.2.1.mono hb) (And.intro ((hb.block _ (heap_lt HB.out.2.2.1)).trans HB.out.2.2.1) (And.intro (HB.out.2.2.2.1.mono hb) ((hb.block _ (heap_lt HB.out.2.2.2.2)).trans HB.out.2.2.2.2)))))
  clear hb HB C20 k0 k1 k2 k3 k4
  have HB := HX
  clear HX
  obtain ⟨k0, k1, k2, k3, k4⟩ := tr_cells (KP.out b7 HB.out.1).1
  go_wp2_with fail
  refine (C21.out _ HB.out.1).mono ?_
  rintro e b8 ⟨rfl, hb⟩
  have HX := Lib.hid (And.intro (HB.out.1.trans (hb.mono HB.out.1.size)) (And.intro (HB.out.2.1.mono hb) (And.intro ((hb.block _ (heap_lt HB.out.2.2.1)).trans HB.out.2.2.1) (And.intro (HB.out.2.2.2.1.mono hb) ((hb.block _ (heap_lt HB.out.2.2.2.2)).trans HB.out.2.2.2.2)))))
  clear hb HB C21 k0 k1 k2 k3 k4
  have HB := HX
  clear HX
  go_wp2_with fail
  refine (spans22 (ca := cv1) (cb := cv2) HB.out.2.1 HB.out.2.2.2.1 HTL.out HTL.out).mono ?_
  rintro e d1 ⟨rfl, hb⟩
  have HX := Lib.hid (HB.out.1.trans (hb.mono HB.out.1.size))
  have g1 := ((hb.block _ (heap_lt HB.out.2.2.1)).trans HB.out.2.2.1)
  have g2 := ((hb.block _ (heap_lt HB.out.2.2.2.2)).trans HB.out.2.2.2.2)
  have x0 : d1.cell? ⟨pb1, 0, none⟩ = some (.int .i64 s1) := by rw [cell_of_heap g1]; rfl
  have x1 : d1.cell? ⟨pb1, 1, none⟩ = some (.int .i64 s2) := by rw [cell_of_heap g1]; rfl
  have x2 : d1.cell? ⟨pb2, 0, none⟩ = some (.int .i64 s1) := by rw [cell_of_heap g2]; rfl
  have x3 : d1.cell? ⟨pb2, 1, none⟩ = some (.int .i64 s2) := by rw [cell_of_heap g2]; rfl
  clear hb HB g1 g2
  rw [show decide (tl = tl) = true by simp]
  have heq : ∀ w, (binOp .eql 33 (.agg #[.int .i64 s1, .int .i64 s2]) (.agg #[.int .i64 s1, .int .i64 s2])).run Try.prog w = .ok (.bool true) w := fun w => by rw [eql33 ⟨s1, s2⟩ ⟨s1, s2⟩]; simp
  go_wp2_with fail
  refine (alive13 _).mono ?_
  rintro e d2 ⟨rfl, hb⟩
  have HY := Lib.hid (HX.out.trans (hb.mono HX.out.size))
  clear hb HX
  go_wp2_with fail
  go_ret
  exact ⟨rfl, (KP.out _ HY.out).2.2.2⟩
end Go.Proofs.Ytphefhpmbahagaa

