/- How many ways there are: the walk. The way with the fewest hidden marks: the drawn regions. The way with the fewest hidden marks: the range over the pairs. What is gathered from cases: how many, and the sides. Rows without some marks. A canvas without some marks. What is known of the cases of a canvas. The way with the fewest hidden marks: the walk. Whether marks can be those that have been painted. -/
import Derived.Test.YtbnhngfegnhaiaaDoorC5
import Derived.Laws.EntriesVeiled
namespace Go.Proofs.YtbnhngfegnhaiaaDoor
open Go.RowKit
set_option linter.unusedVariables false
set_option linter.unusedSimpArgs false
theorem on69 {r : Rws} {al ar : Option Addr} {cl cr : Nat} {T : Nat → Bool} {need : Int} {mx rx sx mb b : Nat} (hl1 : r.left.length ≤ 10) (hl2 : r.right.length ≤ 10) : ∀ (d : Nat) (s : StV) (w : World), r.left.length - s.i ≤ d → s.Ok → CntC r al cl ar cr T need mx rx sx mb b w → KnownC (fun a c => T (a * 10 + c)) r.left.length r.right.length w mb →
    Calls Tryd.prog 98 #[s.v, .pointer (some ⟨mx, 0, none⟩), .pointer (some ⟨rx, 0, none⟩), .pointer (some ⟨sx, 0, none⟩)] w fun e w' => e = .returned (.int .i64 (valV (fun a c => T (a * 10 + c)) r.left.length r.right.length s)) ∧ Same (fun k => k = mb) w w' ∧ KnownC (fun a c => T (a * 10 + c)) r.left.length r.right.length w' mb
  | 0, s, w, h, hs, hc, hk => on69_step hl1 hl2 hs hc hk (fun t w' h1 h2 _ _ _ => by omega)
  | d + 1, s, w, h, hs, hc, hk => on69_step hl1 hl2 hs hc hk (fun t w' h1 h2 ht hc' hk' => on69 hl1 hl2 d t w' (by omega) ht hc' hk')
theorem KnownC.made (F : Nat → Nat → Bool) (n m : Nat) {w : World} {mb : Nat} (h : w.heap[mb]? = some (.map #[] 0)) : KnownC F n m w mb :=
  ⟨[], ⟨#[], 0, h, MapKept.stamped_empty 0, rfl, by simp⟩, fun X hX => by simp at hX⟩
theorem need105 {w : World} {b : Nat} {r : Rws} {al ar : Option Addr} {cl cr : Nat} {T : Nat → Bool} {need : Int} (h : IsRws w b r al cl ar cr T need) : w.cell? ⟨b, 105, none⟩ = some (.int .i64 need) := by
  rw [cell_of_heap h.h]
  rfl
theorem pairs_congr {F G : Nat → Nat → Bool} {n m : Nat} (h : ∀ a b, a < n → b < m → F a b = G a b) (i k : Nat) : pairsFrom F n m i k = pairsFrom G n m i k := by
  unfold pairsFrom
  rw [List.flatMap_def, List.flatMap_def]
  congr 1
  apply List.map_congr_left
  intro a ha
  rw [List.mem_range'_1] at ha
  rw [List.filter_congr (fun b hb => h a b (by omega) (by rw [List.mem_range'_1] at hb; omega))]
theorem cntF_congr {F G : Nat → Nat → Bool} {n m : Nat} (h : ∀ a b, a < n → b < m → F a b = G a b) : ∀ (f i k : Nat) (d : Int), cntF F n m f i k d = cntF G n m f i k d
  | 0, _, _, _ => rfl
  | f + 1, i, k, d => by
    unfold cntF
    rw [pairs_congr h i k]
    congr 2
    apply List.map_congr_left
    intro p _
    exact cntF_congr h f _ _ _
set_option maxRecDepth 100000 in
set_option maxHeartbeats 8000000 in
theorem count47 {r : Rws} {al ar : Option Addr} {cl cr : Nat} {T : Nat → Bool} {need : Int} {b : Nat} {w : World} (hl1 : r.left.length ≤ 10) (hl2 : r.right.length ≤ 10) (hn : need ≤ 1000) (hR : IsRws w b r al cl ar cr T need) :
    Calls Tryd.prog 60 #[.pointer (some ⟨b, 0, none⟩)] w fun e w' => e = .returned (.int .i64 (cntV (fun a c => T (a * 10 + c)) r.left.length r.right.length 0 0 (max 0 need))) ∧ Below w.heap.size w w' := by
  have hmf : ∀ (fn : Fn) (first cap : Array Value) (w : World), (Instr.makeFunc fn first cap).run Tryd.prog w = .ok (.func fn first cap) w := fun _ _ _ _ => rfl
  have hmk : ∀ w : World, (Instr.makeMap 173 none).run Tryd.prog w = .ok (.map (some w.heap.size)) (w.alloc (.map #[] 0)) := fun w => by kernel_rfl
  have HR := Lib.hid hR
  have HL := Lib.hid (And.intro hl1 (And.intro hl2 hn))
  clear hR hl1 hl2 hn
  go_enter Tryd.func60, Tryd.ntmps60
  refine wp_seq_hid ?_
  intro K0 HK0
  go_wp2_with fail
  refine HK0.out _ _ ?_
  clear HK0 K0
  refine wp_seq_hid ?_
  intro K1 HK1
  go_wp2_with fail
  refine HK1.out _ _ ?_
  clear HK1 K1
  refine wp_seq_hid ?_
  intro K2 HK2
  go_wp2_with fail
  refine HK2.out _ _ ?_
  clear HK2 K2
  have HA : Hid (∀ W, W = (((w.alloc (.cells #[.pointer (some ⟨b, 0, none⟩)] 68)).alloc (.map #[] 0)).alloc (.cells #[.map (some (w.heap.size + 1))] 173)).alloc (.cells #[.nilFunc] 174) → W.heap.size = w.heap.size + 4 ∧ W.heap[w.heap.size]? = some (.cells #[.pointer (some ⟨b, 0, none⟩)] 68 (0, 0)) ∧ W.heap[w.heap.size + 1]? = some (.map #[] 0) ∧ W.heap[w.heap.size + 1 + 1]? = some (.cells #[.map (some (w.heap.size + 1))] 173 (0, 0)) ∧ W.heap[w.heap.size + 1 + 1 + 1]? = some (.cells #[.nilFunc] 174 (0, 0)) ∧ Below w.heap.size w W) := fun W hW => by
    subst hW
    refine ⟨by simp, ?_, ?_, ?_, ?_, ?_⟩
    · rw [Below.heap_alloc _ _ _ (by simp; omega), Below.heap_alloc _ _ _ (by simp; omega), Below.heap_alloc _ _ _ (by simp)]
      exact World.alloc_heap_new _ _
    · rw [Below.heap_alloc _ _ _ (by simp), Below.heap_alloc _ _ _ (by simp)]
      have h := World.alloc_heap_new (w.alloc (.cells #[.pointer (some ⟨b, 0, none⟩)] 68)) (.map #[] 0)
      rw [World.size_alloc] at h
      exact h
    · rw [Below.heap_alloc _ _ _ (by simp)]
      have h := World.alloc_heap_new ((w.alloc (.cells #[.pointer (some ⟨b, 0, none⟩)] 68)).alloc (.map #[] 0)) (.cells #[.map (some (w.heap.size + 1))] 173)
      rw [World.size_alloc, World.size_alloc] at h
      exact h
    · have h := World.alloc_heap_new (((w.alloc (.cells #[.pointer (some ⟨b, 0, none⟩)] 68)).alloc (.map #[] 0)).alloc (.cells #[.map (some (w.heap.size + 1))] 173)) (.cells #[.nilFunc] 174)
      rw [World.size_alloc, World.size_alloc, World.size_alloc] at h
      exact h
    · exact ((((Below.refl _ _).alloc (Nat.le_refl _) _).alloc (by simp) _).alloc (by simp; omega) _).alloc (by simp; omega) _
  revert HA
  generalize (((w.alloc (.cells #[.pointer (some ⟨b, 0, none⟩)] 68)).alloc (.map #[] 0)).alloc (.cells #[.map (some (w.heap.size + 1))] 173)).alloc (.cells #[.nilFunc] 174) = W
  intro HA
  have HA := Lib.hid (HA.out W rfl)
  have cs : W.cell? ⟨w.heap.size + 1 + 1 + 1, 0, none⟩ = some .nilFunc := by rw [cell_of_heap HA.out.2.2.2.2.1]; rfl
  have fs : W.frozen? ⟨w.heap.size + 1 + 1 + 1, 0, none⟩ = false := frozen_of_heap HA.out.2.2.2.2.1
  refine wp_seq_hid ?_
  intro K3 HK3
  go_wp2_with fail
  refine HK3.out _ _ ?_
  clear HK3 K3 cs fs
  have HB : Hid (Below w.heap.size w (W.setCell ⟨w.heap.size + 1 + 1 + 1, 0, none⟩ (.func (.func 98) #[] #[.pointer (some ⟨w.heap.size + 1 + 1, 0, none⟩), .pointer (some ⟨w.heap.size, 0, none⟩), .pointer (some ⟨w.heap.size + 1 + 1 + 1, 0, none⟩)])) ∧ CntC r al cl ar cr T need (w.heap.size + 1 + 1) w.heap.size (w.heap.size + 1 + 1 + 1) (w.heap.size + 1) b (W.setCell ⟨w.heap.size + 1 + 1 + 1, 0, none⟩ (.func (.func 98) #[] #[.pointer (some ⟨w.heap.size + 1 + 1, 0, none⟩), .pointer (some ⟨w.heap.size, 0, none⟩), .pointer (some ⟨w.heap.size + 1 + 1 + 1, 0, none⟩)])) ∧ KnownC (fun a c => T (a * 10 + c)) r.left.length r.right.length (W.setCell ⟨w.heap.size + 1 + 1 + 1, 0, none⟩ (.func (.func 98) #[] #[.pointer (some ⟨w.heap.size + 1 + 1, 0, none⟩), .pointer (some ⟨w.heap.size, 0, none⟩), .pointer (some ⟨w.heap.size + 1 + 1 + 1, 0, none⟩)])) (w.heap.size + 1)) := by
    obtain ⟨g0, g1, g2, g3, g4, g5⟩ := HA.out
    have hb : Below w.heap.size w (W.setCell ⟨w.heap.size + 1 + 1 + 1, 0, none⟩ (.func (.func 98) #[] #[.pointer (some ⟨w.heap.size + 1 + 1, 0, none⟩), .pointer (some ⟨w.heap.size, 0, none⟩), .pointer (some ⟨w.heap.size + 1 + 1 + 1, 0, none⟩)])) := g5.setCell (p := ⟨w.heap.size + 1 + 1 + 1, 0, none⟩) (by show w.heap.size ≤ w.heap.size + 1 + 1 + 1; omega) _
    have e1 : w.heap.size ≠ w.heap.size + 1 + 1 + 1 := by omega
    have e2 : w.heap.size + 1 ≠ w.heap.size + 1 + 1 + 1 := by omega
    have e3 : w.heap.size + 1 + 1 ≠ w.heap.size + 1 + 1 + 1 := by omega
    exact ⟨hb, ⟨(Below.heap_setCell _ _ _ _ e3).trans g3, (Below.heap_setCell _ _ _ _ e1).trans g1, heap_setCell_at (k := 0) g4 _, HR.out.mono hb⟩, KnownC.made _ _ _ ((Below.heap_setCell _ _ _ _ e2).trans g2)⟩
  have HZ : Hid (w.heap.size + 4 ≤ (W.setCell ⟨w.heap.size + 1 + 1 + 1, 0, none⟩ (.func (.func 98) #[] #[.pointer (some ⟨w.heap.size + 1 + 1, 0, none⟩), .pointer (some ⟨w.heap.size, 0, none⟩), .pointer (some ⟨w.heap.size + 1 + 1 + 1, 0, none⟩)])).heap.size) := by
    have := HA.out.1
    simp [Hid]
    omega
  revert HB HZ
  generalize W.setCell ⟨w.heap.size + 1 + 1 + 1, 0, none⟩ (.func (.func 98) #[] #[.pointer (some ⟨w.heap.size + 1 + 1, 0, none⟩), .pointer (some ⟨w.heap.size, 0, none⟩), .pointer (some ⟨w.heap.size + 1 + 1 + 1, 0, none⟩)]) = V
  intro HB HZ
  clear HA
  have hz := HZ.out
  refine wp_seq_hid ?_
  intro K4 HK4
  refine wpIn_wide.1 (cnt4 (b := b) (t1 := w.heap.size) (mx := w.heap.size + 1 + 1) (rx := w.heap.size) (sx := w.heap.size + 1 + 1 + 1) (nd := need) (v := cntV (fun a c => T (a * 10 + c)) r.left.length r.right.length 0 0 (max 0 need)) (S0 := fun v => Below V.heap.size V v) (S1 := fun _ v => Same (fun k => k = w.heap.size + 1) V v) ?h0 ?l0 ?l1 ?l4 ?c7 ?hQ)
  case h0 => exact (Below.refl _ _).drew
  case l0 => exact fun v h => by rw [cell_of_heap ((h.block _ (heap_lt HB.out.2.1.hsx)).trans HB.out.2.1.hsx)]; rfl
  case l1 => exact fun v h => by rw [cell_of_heap ((h.block _ (heap_lt HB.out.2.1.hrx)).trans HB.out.2.1.hrx)]; rfl
  case l4 => exact fun v h => need105 (HB.out.2.1.rows.mono h)
  case c7 =>
    intro v h
    have hl := HL.out
    have hs := Same.of_below (fun k => k = w.heap.size + 1) h
    refine (on69 HL.out.1 HL.out.2.1 _ ⟨0, 0, max 0 need⟩ v (Nat.le_refl _) ⟨by simp, by simp, by simp only; omega, by simp only; omega⟩ (HB.out.2.1.same HB.out.2.2.map hs) (HB.out.2.2.kept (h.block _ HB.out.2.2.lt))).mono ?_
    rintro e v' ⟨rfl, hs', _⟩
    exact ⟨(), rfl, hs.trans hs'⟩
  case hQ =>
    intro u w' hs
    refine HK4.out _ _ ?_
    go_wp2_with fail
    refine bodyPost_ret (results_tmp rfl _ _ _) rfl ⟨rfl, HB.out.1.trans (hs.below (by omega) (fun k hk e => by omega))⟩
theorem need_le {r : Rws} (hn : r.Nums) : r.need ≤ 1000 := by
  have h1 := hn.l1
  have h2 := hn.l2
  have h3 := hn.h1
  unfold Rws.need
  have h4 : ((r.left.length : Int) + r.right.length - r.hidden + 1).tdiv 2 ≤ Int.tdiv 100 2 := Int.tdiv_le_tdiv (by omega) (by omega)
  have h5 : Int.tdiv 100 2 = 50 := by decide
  omega
theorem cnt_fit {r : Rws} (h2 : r.right.length ≤ 10) : cntV (fun a b => (fun j => r.fit (j / 10) (j % 10)) (a * 10 + b)) r.left.length r.right.length 0 0 (max 0 r.need) = r.count := by
  have hF : ∀ a b, a < r.left.length → b < r.right.length → (fun a b => (fun j => r.fit (j / 10) (j % 10)) (a * 10 + b)) a b = r.fit a b := fun a b _ hb => by
    show r.fit ((a * 10 + b) / 10) ((a * 10 + b) % 10) = r.fit a b
    rw [show (a * 10 + b) / 10 = a by omega, show (a * 10 + b) % 10 = b by omega]
  exact cntF_congr hF _ _ _ _
set_option maxRecDepth 100000 in
set_option maxHeartbeats 8000000 in
theorem count33 {r : Rws} {al ar : Option Addr} {cl cr : Nat} {w : World} (hv : r.valid = true) (h1 : IsMks w al r.left) (h2 : IsMks w ar r.right) :
    Calls Tryd.prog 19 #[r.v al cl ar cr] w fun e w' => e = .returned (.tuple #[.int .i64 r.count, .int .i64 0]) ∧ Below w.heap.size w w' := by
  have HX := Lib.hid (And.intro (World.alloc_heap_new w (.cells (r.arr al cl ar cr) 26)) (And.intro (alloc_below w (.cells (r.arr al cl ar cr) 26)) (And.intro (h1.mono (alloc_below w (.cells (r.arr al cl ar cr) 26))) (h2.mono (alloc_below w (.cells (r.arr al cl ar cr) 26))))))
  have HV := Lib.hid (And.intro hv (rnums_of hv))
  clear hv h1 h2
  go_enter Tryd.func19, Tryd.ntmps19
  refine wp_seq_hid ?_
  intro K0 HK0
  go_wp2_with fail
  refine HK0.out _ _ ?_
  clear HK0 K0
  revert HX
  generalize w.alloc (.cells (r.arr al cl ar cr) 26) = w1
  generalize hb : w.heap.size = b1
  intro HX
  have HLT : Hid (b1 ≤ w1.heap.size) := Nat.le_of_lt (heap_lt HX.out.1)
  have KF : Hid (∀ v, Below w1.heap.size w1 v → v.heap[b1]? = some (.cells (r.arr al cl ar cr) 26 (0, 0)) ∧ Below b1 w v ∧ IsMks v al r.left ∧ IsMks v ar r.right) := fun v hv =>
    ⟨(hv.block _ (heap_lt HX.out.1)).trans HX.out.1, HX.out.2.1.trans (hv.mono HLT.out), HX.out.2.2.1.mono hv, HX.out.2.2.2.mono hv⟩
  have HR0 := Lib.hid (Below.refl w1.heap.size w1)
  clear hb
  have hl0 : ∀ v, Below w1.heap.size w1 v → v.cell? ⟨b1, 0, none⟩ = some (.slice al r.left.length cl) := fun v hv => by rw [cell_of_heap (KF.out v hv).1]; rfl
  have hl1 : ∀ v, Below w1.heap.size w1 v → v.cell? ⟨b1, 1, none⟩ = some (.slice ar r.right.length cr) := fun v hv => by rw [cell_of_heap (KF.out v hv).1]; rfl
  have hl2 : ∀ v, Below w1.heap.size w1 v → v.cell? ⟨b1, 2, none⟩ = some (.int .i64 r.shift.lo) := fun v hv => by rw [cell_of_heap (KF.out v hv).1]; rfl
  have hl3 : ∀ v, Below w1.heap.size w1 v → v.cell? ⟨b1, 3, none⟩ = some (.int .i64 r.shift.hi) := fun v hv => by rw [cell_of_heap (KF.out v hv).1]; rfl
  have hl4 : ∀ v, Below w1.heap.size w1 v → v.cell? ⟨b1, 4, none⟩ = some (.int .i64 r.hidden) := fun v hv => by rw [cell_of_heap (KF.out v hv).1]; rfl
  have HLD := Lib.hid (And.intro hl0 (And.intro hl1 (And.intro hl2 (And.intro hl3 hl4))))
  clear hl0 hl1 hl2 hl3 hl4
  refine wp_seq_hid ?_
  intro K1 HK1
  have m0 := HLD.out.1 w1 HR0.out
  have m1 := HLD.out.2.1 w1 HR0.out
  have m2 := HLD.out.2.2.1 w1 HR0.out
  have m3 := HLD.out.2.2.2.1 w1 HR0.out
  have m4 := HLD.out.2.2.2.2 w1 HR0.out
  go_wp2_with fail
  refine (isRows45 HV.out.1 (KF.out w1 HR0.out).2.2.1 (KF.out w1 HR0.out).2.2.2).mono ?_
  rintro e w2 ⟨rfl, hb⟩
  have HB2 := Lib.hid hb
  clear hb m0 m1 m2 m3 m4
  go_wp2_with fail
  refine HK1.out _ _ ?_
  clear HK1 K1
  have m0 := HLD.out.1 w2 HB2.out
  have m1 := HLD.out.2.1 w2 HB2.out
  have m2 := HLD.out.2.2.1 w2 HB2.out
  have m3 := HLD.out.2.2.2.1 w2 HB2.out
  have m4 := HLD.out.2.2.2.2 w2 HB2.out
  go_wp2_with fail
  refine (look46 HV.out.2 (KF.out w2 HB2.out).2.2.1 (KF.out w2 HB2.out).2.2.2).mono ?_
  rintro e w3 ⟨b, rfl, hlt, hR, hb⟩
  have HB3 := Lib.hid (And.intro hR (HB2.out.trans (hb.mono HB2.out.size)))
  clear hR hb m0 m1 m2 m3 m4
  go_wp2_with fail
  refine (count47 HV.out.2.l1 HV.out.2.l2 (need_le HV.out.2) HB3.out.1).mono ?_
  rintro e w4 ⟨rfl, hb⟩
  rw [cnt_fit HV.out.2.l2]
  have HB4 := Lib.hid (HB3.out.2.trans (hb.mono HB3.out.2.size))
  clear hb
  go_wp2_with fail
  go_ret2
  exact ⟨rfl, (KF.out w4 HB4.out).2.1⟩
end Go.Proofs.YtbnhngfegnhaiaaDoor
namespace Go.Proofs.YtbnhngfegnhaiaaDoor
open Go.RowKit
set_option linter.unusedVariables false
set_option linter.unusedSimpArgs false
/-- What a slot holds: the value, once it is done. -/
def pk (b : Bool) (v s : Value) : Value := if b then v else s
theorem pk_of {b : Bool} (h : b = true) (v s : Value) : pk b v s = v := by rw [h]; rfl
/-- What is done waits for nothing. -/
def OrdP (L : List (List Nat)) (d : Nat → Bool) : Prop := ∀ k, d k = true → ∀ e ∈ L.getD k [], d e = true
theorem OrdP.step {L : List (List Nat)} {d : Nat → Bool} {k : Nat} (h : OrdP L d) (hk : ∀ e ∈ L.getD k [], d e = true) : OrdP L (upd d k) := fun j hj e he => by
  unfold upd at hj ⊢
  by_cases h2 : e = k
  · simp [h2]
  · by_cases h1 : j = k
    · subst h1; simp [h2, hk e he]
    · simp [h1] at hj; simp [h2, h j hj e he]
/-- A world at one of 6 stages, by which ones are passed. -/
def ch5 (P0 P1 P2 P3 P4 P5 : World → Prop) : Bool → Bool → Bool → Bool → Bool → World → Prop
  | false, false, false, false, false, w => P0 w
  | true, false, false, false, false, w => P1 w
  | true, true, false, false, false, w => P2 w
  | true, true, true, false, false, w => P3 w
  | true, true, true, true, false, w => P4 w
  | true, true, true, true, true, w => P5 w
  | _, _, _, _, _, _ => False
theorem ch5_or {P0 P1 P2 P3 P4 P5 : World → Prop} {f1 f2 f3 f4 f5 : Bool} {w : World} (h : ch5 P0 P1 P2 P3 P4 P5 f1 f2 f3 f4 f5 w) : P0 w ∨ P1 w ∨ P2 w ∨ P3 w ∨ P4 w ∨ P5 w := by
  cases f1 <;> cases f2 <;> cases f3 <;> cases f4 <;> cases f5 <;> first | exact False.elim h | exact .inl h | exact .inr (.inl h) | exact .inr (.inr (.inl h)) | exact .inr (.inr (.inr (.inl h))) | exact .inr (.inr (.inr (.inr (.inl h)))) | exact .inr (.inr (.inr (.inr (.inr h))))
theorem ch5_s1 {P0 P1 P2 P3 P4 P5 : World → Prop} {f1 f2 f3 f4 f5 : Bool} {w : World} (h : ch5 P0 P1 P2 P3 P4 P5 f1 f2 f3 f4 f5 w) (e2 : f1 = false) : P0 w ∧ ∀ w' : World, P1 w' → ch5 P0 P1 P2 P3 P4 P5 true f2 f3 f4 f5 w' := by
  subst e2
  cases f2 <;> cases f3 <;> cases f4 <;> cases f5 <;> first | exact False.elim h | exact ⟨h, fun _ x => x⟩
theorem ch5_s2 {P0 P1 P2 P3 P4 P5 : World → Prop} {f1 f2 f3 f4 f5 : Bool} {w : World} (h : ch5 P0 P1 P2 P3 P4 P5 f1 f2 f3 f4 f5 w) (e1 : f1 = true) (e2 : f2 = false) : P1 w ∧ ∀ w' : World, P2 w' → ch5 P0 P1 P2 P3 P4 P5 f1 true f3 f4 f5 w' := by
  subst e1 e2
  cases f3 <;> cases f4 <;> cases f5 <;> first | exact False.elim h | exact ⟨h, fun _ x => x⟩
theorem ch5_s3 {P0 P1 P2 P3 P4 P5 : World → Prop} {f1 f2 f3 f4 f5 : Bool} {w : World} (h : ch5 P0 P1 P2 P3 P4 P5 f1 f2 f3 f4 f5 w) (e1 : f2 = true) (e2 : f3 = false) : P2 w ∧ ∀ w' : World, P3 w' → ch5 P0 P1 P2 P3 P4 P5 f1 f2 true f4 f5 w' := by
  subst e1 e2
  cases f1 <;> cases f4 <;> cases f5 <;> first | exact False.elim h | exact ⟨h, fun _ x => x⟩
theorem ch5_s4 {P0 P1 P2 P3 P4 P5 : World → Prop} {f1 f2 f3 f4 f5 : Bool} {w : World} (h : ch5 P0 P1 P2 P3 P4 P5 f1 f2 f3 f4 f5 w) (e1 : f3 = true) (e2 : f4 = false) : P3 w ∧ ∀ w' : World, P4 w' → ch5 P0 P1 P2 P3 P4 P5 f1 f2 f3 true f5 w' := by
  subst e1 e2
  cases f1 <;> cases f2 <;> cases f5 <;> first | exact False.elim h | exact ⟨h, fun _ x => x⟩
theorem ch5_s5 {P0 P1 P2 P3 P4 P5 : World → Prop} {f1 f2 f3 f4 f5 : Bool} {w : World} (h : ch5 P0 P1 P2 P3 P4 P5 f1 f2 f3 f4 f5 w) (e1 : f4 = true) (e2 : f5 = false) : P4 w ∧ ∀ w' : World, P5 w' → ch5 P0 P1 P2 P3 P4 P5 f1 f2 f3 f4 true w' := by
  subst e1 e2
  cases f1 <;> cases f2 <;> cases f3 <;> first | exact False.elim h | exact ⟨h, fun _ x => x⟩
theorem wpInR_append_run {P : Program} {m : Nat} {r : Option Nat} {w : World} {o : Oper} {a : Act} {K : Act → World → Prop} {Q : Exit → Act → World → Prop} (s x : Operand) (t : TypeId)
    (ho : o.op = .call { callee := .builtin .append, args := #[s, x], argTypes := #[t, t] }) (v xv v' : Value) (w' : World) (hs : a.eval s = v) (hx : a.eval x = xv)
    (hr : (Builtin.append_ #[t, t] o.type #[v, xv]).run P w = .ok v' w') (h : K (a.put o.dst v') w') : o.wpIn (wideAt r) m P a w K Q := by
  refine ⟨fun _ _ => trivial, ?_⟩
  show o.uponIn _ _ P a K Q ((o.semAt _ a.eval).run P w)
  have e : (o.semAt (wideAt r).round a.eval).run P w = (execOp a.eval o).run P w := by
    cases r with
    | none => rfl
    | some l => show (o.semAt (some l) a.eval).run P w = _; simp [Oper.semAt_some, ho]
  rw [e]
  unfold execOp
  simp only [ho, resolve, invoke, builtin, Sem.run_bind, Sem.run_pure, Result.andThen_ok, List.map_toArray, List.map_cons, List.map_nil, hs, hx, hr]
  exact h
attribute [local go_sem] Oper.semAt_some
noncomputable def few12C : Code := (Tryd.f7.body.bind (regionR 12)).getD .skip
set_option maxRecDepth 100000 in
set_option maxHeartbeats 8000000 in
theorem few12 {b6 p7 p10 rl a c p q : Nat} {x y y1 : Int} {b : Bool} {P0 : World → Prop} {Q : Exit → Act → World → Prop} {W1 : World} (hp : IntKind.i64.wrap ((a : Int) + 1) = (p : Int)) (hq : IntKind.i64.wrap ((c : Int) + 1) = (q : Int)) (hy : IntKind.i64.wrap (1 + y) = y1) (hb : (y1 == x) = b) (hp0 : (0 : Int) ≤ p) (hp1 : (p : Int) < 11) (hq0 : (0 : Int) ≤ q) (hq1 : (q : Int) < 11) (h0 : P0 W1.drew)
    (kl1 : Hid (∀ w : World, (P0 w) → w.cell? ⟨p10, 0, none⟩ = some (.int .i64 ((a : Int)))))
    (kl4 : Hid (∀ w : World, (P0 w) → w.cell? ⟨p10, 1, none⟩ = some (.int .i64 ((c : Int)))))
    (kl8 : Hid (∀ w : World, (P0 w) → w.cell? ⟨b6, p * 11 + q, none⟩ = some (.int .i64 (y))))
    (kl10 : Hid (∀ w : World, (P0 w) → w.cell? ⟨p7, 0, none⟩ = some (.int .i64 (x))))
    {s0 s1 s2 s3 s4 s5 s8 s9 s11 s12 s13 s14 s15 s16 s17 s18 s19 s20 s21 s22 s23 s24 s25 s26 s27 s28 s29 s30 s31 s32 s33 s34 s35 s36 s37 s38 s39 s40 s41 s42 s43 s44 s45 s46 s47 s48 s49 s50 s51 s52 s53 s54 s55 s56 s57 s58 s59 s60 s61 s62 s63 s64 s65 s66 s67 s68 : Value} {dd : List Deferred}
    (hQ : ∀ w' : World, P0 w' → Q .normal { tmps := List.toArray (s0 :: s1 :: s2 :: s3 :: s4 :: s5 :: .pointer (some ⟨b6, 0, none⟩) :: .pointer (some ⟨p7, 0, none⟩) :: s8 :: s9 :: .pointer (some ⟨p10, 0, none⟩) :: s11 :: s12 :: s13 :: s14 :: s15 :: s16 :: s17 :: s18 :: s19 :: s20 :: s21 :: s22 :: s23 :: s24 :: s25 :: s26 :: s27 :: s28 :: s29 :: s30 :: s31 :: s32 :: s33 :: s34 :: s35 :: s36 :: s37 :: s38 :: s39 :: s40 :: s41 :: s42 :: .pointer (some ⟨p10, 0, none⟩) :: .int .i64 ((a : Int)) :: .int .i64 ((p : Int)) :: .pointer (some ⟨p10, 1, none⟩) :: .int .i64 ((c : Int)) :: .int .i64 ((q : Int)) :: .pointer (some ⟨b6, p * 11, none⟩) :: .pointer (some ⟨b6, p * 11 + q, none⟩) :: .int .i64 (y) :: .int .i64 (y1) :: .int .i64 (x) :: .bool b :: s55 :: s56 :: s57 :: s58 :: s59 :: s60 :: s61 :: s62 :: s63 :: s64 :: s65 :: s66 :: s67 :: s68 :: []),defers := dd } w') :
    Code.wpIn (wideAt (some rl)) 0 Tryd.prog few12C Q { tmps := List.toArray (s0 :: s1 :: s2 :: s3 :: s4 :: s5 :: .pointer (some ⟨b6, 0, none⟩) :: .pointer (some ⟨p7, 0, none⟩) :: s8 :: s9 :: .pointer (some ⟨p10, 0, none⟩) :: s11 :: s12 :: s13 :: s14 :: s15 :: s16 :: s17 :: s18 :: s19 :: s20 :: s21 :: s22 :: s23 :: s24 :: s25 :: s26 :: s27 :: s28 :: s29 :: s30 :: s31 :: s32 :: s33 :: s34 :: s35 :: s36 :: s37 :: s38 :: s39 :: s40 :: s41 :: s42 :: s43 :: s44 :: s45 :: s46 :: s47 :: s48 :: s49 :: s50 :: s51 :: s52 :: s53 :: s54 :: s55 :: s56 :: s57 :: s58 :: s59 :: s60 :: s61 :: s62 :: s63 :: s64 :: s65 :: s66 :: s67 :: s68 :: []),defers := dd } W1 := by
  have HQ := Lib.hid hQ
  clear hQ
  conv => arg 4; whnf
  refine wpIn_region_invG mixed (by kernel_rfl) (fun d_ a_ w' => a_ = { tmps := List.toArray (s0 :: s1 :: s2 :: s3 :: s4 :: s5 :: .pointer (some ⟨b6, 0, none⟩) :: .pointer (some ⟨p7, 0, none⟩) :: s8 :: s9 :: .pointer (some ⟨p10, 0, none⟩) :: s11 :: s12 :: s13 :: s14 :: s15 :: s16 :: s17 :: s18 :: s19 :: s20 :: s21 :: s22 :: s23 :: s24 :: s25 :: s26 :: s27 :: s28 :: s29 :: s30 :: s31 :: s32 :: s33 :: s34 :: s35 :: s36 :: s37 :: s38 :: s39 :: s40 :: s41 :: s42 :: pk (d_ 0) (.pointer (some ⟨p10, 0, none⟩)) s43 :: pk (d_ 1) (.int .i64 ((a : Int))) s44 :: pk (d_ 2) (.int .i64 ((p : Int))) s45 :: pk (d_ 3) (.pointer (some ⟨p10, 1, none⟩)) s46 :: pk (d_ 4) (.int .i64 ((c : Int))) s47 :: pk (d_ 5) (.int .i64 ((q : Int))) s48 :: pk (d_ 6) (.pointer (some ⟨b6, p * 11, none⟩)) s49 :: pk (d_ 7) (.pointer (some ⟨b6, p * 11 + q, none⟩)) s50 :: pk (d_ 8) (.int .i64 (y)) s51 :: pk (d_ 9) (.int .i64 (y1)) s52 :: pk (d_ 10) (.int .i64 (x)) s53 :: pk (d_ 11) (.bool b) s54 :: s55 :: s56 :: s57 :: s58 :: s59 :: s60 :: s61 :: s62 :: s63 :: s64 :: s65 :: s66 :: s67 :: s68 :: []),defers := dd } ∧ P0 w') ?_ ?_ ?_
  · exact ⟨rfl, h0⟩
  · refine ⟨?_,?_,?_,?_,?_,?_,?_,?_,?_,?_,?_,?_, trivial⟩
    all_goals
      rintro d_ a_ w1 K hd_ hdep ⟨rfl, F⟩ HK
      simp [Region.binds] at hdep
    · have HF := Lib.hid F
      clear F hdep
      go_simp
      refine HK.out _ _ ⟨?_, HF.out⟩
      all_goals rfl
    · have q0 : d_ 0 = true := by simp [hdep]
      have kk := kl1.out w1 (F)
      rw [pk_of q0]
      have HF := Lib.hid F
      clear F hdep
      go_simp
      refine HK.out _ _ ⟨?_, HF.out⟩
      rw [pk_of (show upd d_ 1 0 = true from q0)]
      all_goals rfl
    · have q1 : d_ 1 = true := by simp [hdep]
      have hp2 := hp
      rw [pk_of q1]
      have HF := Lib.hid F
      clear F hdep
      go_simp
      refine HK.out _ _ ⟨?_, HF.out⟩
      rw [pk_of (show upd d_ 2 1 = true from q1)]
      all_goals rfl
    · have HF := Lib.hid F
      clear F hdep
      go_simp
      refine HK.out _ _ ⟨?_, HF.out⟩
      all_goals rfl
    · have q3 : d_ 3 = true := by simp [hdep]
      have kk := kl4.out w1 (F)
      rw [pk_of q3]
      have HF := Lib.hid F
      clear F hdep
      go_simp
      refine HK.out _ _ ⟨?_, HF.out⟩
      rw [pk_of (show upd d_ 4 3 = true from q3)]
      all_goals rfl
    · have q4 : d_ 4 = true := by simp [hdep]
      have hq2 := hq
      rw [pk_of q4]
      have HF := Lib.hid F
      clear F hdep
      go_simp
      refine HK.out _ _ ⟨?_, HF.out⟩
      rw [pk_of (show upd d_ 5 4 = true from q4)]
      all_goals rfl
    · have q2 : d_ 2 = true := by simp [hdep]
      have g1 := hp1
      have g2 := hp0
      rw [pk_of q2]
      have HF := Lib.hid F
      clear F hdep
      go_simp
      refine HK.out _ _ ⟨?_, HF.out⟩
      rw [pk_of (show upd d_ 6 2 = true from q2)]
      all_goals rfl
    · have q5 : d_ 5 = true := by simp [hdep]
      have q6 : d_ 6 = true := by simp [hdep]
      have g1 := hq1
      have g2 := hq0
      rw [pk_of q5, pk_of q6]
      have HF := Lib.hid F
      clear F hdep
      go_simp
      refine HK.out _ _ ⟨?_, HF.out⟩
      rw [pk_of (show upd d_ 7 5 = true from q5), pk_of (show upd d_ 7 6 = true from q6)]
      all_goals rfl
    · have q7 : d_ 7 = true := by simp [hdep]
      have kk := kl8.out w1 (F)
      rw [pk_of q7]
      have HF := Lib.hid F
      clear F hdep
      go_simp
      refine HK.out _ _ ⟨?_, HF.out⟩
      rw [pk_of (show upd d_ 8 7 = true from q7)]
      all_goals rfl
    · have q8 : d_ 8 = true := by simp [hdep]
      have hy2 := hy
      rw [pk_of q8]
      have HF := Lib.hid F
      clear F hdep
      go_simp
      refine HK.out _ _ ⟨?_, HF.out⟩
      rw [pk_of (show upd d_ 9 8 = true from q8)]
      all_goals rfl
    · have kk := kl10.out w1 (F)
      have HF := Lib.hid F
      clear F hdep
      go_simp
      refine HK.out _ _ ⟨?_, HF.out⟩
      all_goals rfl
    · have q9 : d_ 9 = true := by simp [hdep]
      have q10 : d_ 10 = true := by simp [hdep]
      have hb2 := hb
      rw [pk_of q9, pk_of q10]
      have HF := Lib.hid F
      clear F hdep
      go_simp
      refine HK.out _ _ ⟨?_, HF.out⟩
      rw [pk_of (show upd d_ 11 9 = true from q9), pk_of (show upd d_ 11 10 = true from q10)]
      all_goals rfl
  · rintro d_ a_ w1 hall ⟨rfl, F⟩
    have hall' : ∀ k, k < 12 → d_ k = true := hall
    have HF := Lib.hid F
    clear F
    rw [pk_of (hall' 0 (by decide)), pk_of (hall' 1 (by decide)), pk_of (hall' 2 (by decide)), pk_of (hall' 3 (by decide)), pk_of (hall' 4 (by decide)), pk_of (hall' 5 (by decide)), pk_of (hall' 6 (by decide)), pk_of (hall' 7 (by decide)), pk_of (hall' 8 (by decide)), pk_of (hall' 9 (by decide)), pk_of (hall' 10 (by decide)), pk_of (hall' 11 (by decide))]
    exact HQ.out w1 HF.out
noncomputable def few13C : Code := (Tryd.f7.body.bind (regionR 13)).getD .skip
set_option maxRecDepth 100000 in
set_option maxHeartbeats 8000000 in
theorem few13 {b2 p8 p9 p10 rl a c p q N n cw cw1 : Nat} {g g1 : Option Addr} {P0 P1 P2 P3 P4 P5 : World → Prop} {Q : Exit → Act → World → Prop} {W1 : World} (hp : IntKind.i64.wrap ((a : Int) + 1) = (p : Int)) (hq : IntKind.i64.wrap ((c : Int) + 1) = (q : Int)) (h0 : P0 W1.drew)
    (kl0 : Hid (∀ w : World, (P0 w ∨ P1 w) → w.cell? ⟨b2, 0, none⟩ = some (.slice g n cw)))
    (kl1 : Hid (∀ w : World, (P0 w ∨ P1 w ∨ P2 w ∨ P3 w ∨ P4 w ∨ P5 w) → w.cell? ⟨p10, 0, none⟩ = some (.int .i64 ((a : Int))) ∧ w.cell? ⟨p10, 1, none⟩ = some (.int .i64 ((c : Int)))))
    (ka2 : Hid (∀ w : World, P0 w → w.heap.size = N ∧ P1 (w.alloc (.cells #[.int .i64 ((a : Int)), .int .i64 ((c : Int))] 42))))
    (kr3 : Hid (∀ w : World, P1 w → ∃ w', (Builtin.append_ #[31, 31] 31 #[.slice g n cw, .slice (some ⟨N, 0, none⟩) 1 1]).run Tryd.prog w = .ok (.slice g1 (n + 1) cw1) w' ∧ P2 w'))
    (kl5 : Hid (∀ w : World, (P0 w ∨ P1 w ∨ P2 w ∨ P3 w ∨ P4 w ∨ P5 w) → w.cell? ⟨p10, 0, none⟩ = some (.int .i64 ((a : Int)))))
    (kl8 : Hid (∀ w : World, (P0 w ∨ P1 w ∨ P2 w ∨ P3 w ∨ P4 w ∨ P5 w) → w.cell? ⟨p10, 1, none⟩ = some (.int .i64 ((c : Int)))))
    (ks10 : Hid (∀ w : World, P2 w → (∃ u, w.cell? ⟨b2, 0, none⟩ = some u) ∧ w.frozen? ⟨b2, 0, none⟩ = false ∧ P3 (w.setCell ⟨b2, 0, none⟩ (.slice g1 (n + 1) cw1))))
    (ks11 : Hid (∀ w : World, P3 w → (∃ u, w.cell? ⟨p8, 0, none⟩ = some u) ∧ w.frozen? ⟨p8, 0, none⟩ = false ∧ P4 (w.setCell ⟨p8, 0, none⟩ (.int .i64 ((p : Int))))))
    (ks12 : Hid (∀ w : World, P4 w → (∃ u, w.cell? ⟨p9, 0, none⟩ = some u) ∧ w.frozen? ⟨p9, 0, none⟩ = false ∧ P5 (w.setCell ⟨p9, 0, none⟩ (.int .i64 ((q : Int))))))
    {s0 s1 s3 s4 s5 s6 s7 s11 s12 s13 s14 s15 s16 s17 s18 s19 s20 s21 s22 s23 s24 s25 s26 s27 s28 s29 s30 s31 s32 s33 s34 s35 s36 s37 s38 s39 s40 s41 s42 s43 s44 s45 s46 s47 s48 s49 s50 s51 s52 s53 s54 s55 s56 s57 s58 s59 s60 s61 s62 s63 s64 s65 s66 s67 s68 : Value} {dd : List Deferred}
    (hQ : ∀ w' : World, P5 w' → Q .normal { tmps := List.toArray (s0 :: s1 :: .pointer (some ⟨b2, 0, none⟩) :: s3 :: s4 :: s5 :: s6 :: s7 :: .pointer (some ⟨p8, 0, none⟩) :: .pointer (some ⟨p9, 0, none⟩) :: .pointer (some ⟨p10, 0, none⟩) :: s11 :: s12 :: s13 :: s14 :: s15 :: s16 :: s17 :: s18 :: s19 :: s20 :: s21 :: s22 :: s23 :: s24 :: s25 :: s26 :: s27 :: s28 :: s29 :: s30 :: s31 :: s32 :: s33 :: s34 :: s35 :: s36 :: s37 :: s38 :: s39 :: s40 :: s41 :: s42 :: s43 :: s44 :: s45 :: s46 :: s47 :: s48 :: s49 :: s50 :: s51 :: s52 :: s53 :: s54 :: .slice g n cw :: .agg #[.int .i64 ((a : Int)), .int .i64 ((c : Int))] :: .slice (some ⟨N, 0, none⟩) 1 1 :: .slice g1 (n + 1) cw1 :: .pointer (some ⟨p10, 0, none⟩) :: .int .i64 ((a : Int)) :: .int .i64 ((p : Int)) :: .pointer (some ⟨p10, 1, none⟩) :: .int .i64 ((c : Int)) :: .int .i64 ((q : Int)) :: s65 :: s66 :: s67 :: s68 :: []),defers := dd } w') :
    Code.wpIn (wideAt (some rl)) 0 Tryd.prog few13C Q { tmps := List.toArray (s0 :: s1 :: .pointer (some ⟨b2, 0, none⟩) :: s3 :: s4 :: s5 :: s6 :: s7 :: .pointer (some ⟨p8, 0, none⟩) :: .pointer (some ⟨p9, 0, none⟩) :: .pointer (some ⟨p10, 0, none⟩) :: s11 :: s12 :: s13 :: s14 :: s15 :: s16 :: s17 :: s18 :: s19 :: s20 :: s21 :: s22 :: s23 :: s24 :: s25 :: s26 :: s27 :: s28 :: s29 :: s30 :: s31 :: s32 :: s33 :: s34 :: s35 :: s36 :: s37 :: s38 :: s39 :: s40 :: s41 :: s42 :: s43 :: s44 :: s45 :: s46 :: s47 :: s48 :: s49 :: s50 :: s51 :: s52 :: s53 :: s54 :: s55 :: s56 :: s57 :: s58 :: s59 :: s60 :: s61 :: s62 :: s63 :: s64 :: s65 :: s66 :: s67 :: s68 :: []),defers := dd } W1 := by
  have HQ := Lib.hid hQ
  clear hQ
  conv => arg 4; whnf
  refine wpIn_region_invG mixed (by kernel_rfl) (fun d_ a_ w' => a_ = { tmps := List.toArray (s0 :: s1 :: .pointer (some ⟨b2, 0, none⟩) :: s3 :: s4 :: s5 :: s6 :: s7 :: .pointer (some ⟨p8, 0, none⟩) :: .pointer (some ⟨p9, 0, none⟩) :: .pointer (some ⟨p10, 0, none⟩) :: s11 :: s12 :: s13 :: s14 :: s15 :: s16 :: s17 :: s18 :: s19 :: s20 :: s21 :: s22 :: s23 :: s24 :: s25 :: s26 :: s27 :: s28 :: s29 :: s30 :: s31 :: s32 :: s33 :: s34 :: s35 :: s36 :: s37 :: s38 :: s39 :: s40 :: s41 :: s42 :: s43 :: s44 :: s45 :: s46 :: s47 :: s48 :: s49 :: s50 :: s51 :: s52 :: s53 :: s54 :: pk (d_ 0) (.slice g n cw) s55 :: pk (d_ 1) (.agg #[.int .i64 ((a : Int)), .int .i64 ((c : Int))]) s56 :: pk (d_ 2) (.slice (some ⟨N, 0, none⟩) 1 1) s57 :: pk (d_ 3) (.slice g1 (n + 1) cw1) s58 :: pk (d_ 4) (.pointer (some ⟨p10, 0, none⟩)) s59 :: pk (d_ 5) (.int .i64 ((a : Int))) s60 :: pk (d_ 6) (.int .i64 ((p : Int))) s61 :: pk (d_ 7) (.pointer (some ⟨p10, 1, none⟩)) s62 :: pk (d_ 8) (.int .i64 ((c : Int))) s63 :: pk (d_ 9) (.int .i64 ((q : Int))) s64 :: s65 :: s66 :: s67 :: s68 :: []),defers := dd } ∧ ch5 P0 P1 P2 P3 P4 P5 (d_ 2) (d_ 3) (d_ 10) (d_ 11) (d_ 12) w' ∧ OrdP [[], [], [1], [0, 2], [], [4], [5], [], [7], [8], [0, 1, 2, 3], [0, 1, 2, 3, 4, 5, 6, 10], [0, 1, 2, 3, 4, 5, 6, 7, 8, 9, 10, 11]] d_) ?_ ?_ ?_
  · exact ⟨rfl, h0, fun k h => by cases h⟩
  · refine ⟨?_,?_,?_,?_,?_,?_,?_,?_,?_,?_,?_,?_,?_, trivial⟩
    all_goals
      rintro d_ a_ w1 K hd_ hdep ⟨rfl, F, O⟩ HK
      simp [Region.binds] at hdep
    · have HO : Hid (OrdP [[], [], [1], [0, 2], [], [4], [5], [], [7], [8], [0, 1, 2, 3], [0, 1, 2, 3, 4, 5, 6, 10], [0, 1, 2, 3, 4, 5, 6, 7, 8, 9, 10, 11]] (upd d_ 0)) := O.step (show ∀ e ∈ ([] : List Nat), d_ e = true by simp [hdep])
      have F2 := F
      have n_ : d_ 3 = false := by
        cases e_ : d_ 3 with
        | false => rfl
        | true => have h2 := (O 3 e_ 0 (by decide)); rw [show d_ 0 = false from hd_] at h2; cases h2
      rw [n_] at F2
      have kk := kl0.out w1 (by
        have h3 := ch5_or F2
        cases e2_ : d_ 2 <;> cases e10_ : d_ 10 <;> cases e11_ : d_ 11 <;> cases e12_ : d_ 12 <;> simp_all [ch5])
      clear F2
      clear n_
      clear O
      have HF := Lib.hid F
      clear F hdep
      go_simp
      refine HK.out _ _ ⟨?_, HF.out, HO.out⟩
      all_goals rfl
    · have HO : Hid (OrdP [[], [], [1], [0, 2], [], [4], [5], [], [7], [8], [0, 1, 2, 3], [0, 1, 2, 3, 4, 5, 6, 10], [0, 1, 2, 3, 4, 5, 6, 7, 8, 9, 10, 11]] (upd d_ 1)) := O.step (show ∀ e ∈ ([] : List Nat), d_ e = true by simp [hdep])
      have kk := kl1.out w1 (ch5_or F)
      obtain ⟨kk0, kk1⟩ := kk
      clear O
      have HF := Lib.hid F
      clear F hdep
      go_simp
      refine HK.out _ _ ⟨?_, HF.out, HO.out⟩
      all_goals rfl
    · have HO : Hid (OrdP [[], [], [1], [0, 2], [], [4], [5], [], [7], [8], [0, 1, 2, 3], [0, 1, 2, 3, 4, 5, 6, 10], [0, 1, 2, 3, 4, 5, 6, 7, 8, 9, 10, 11]] (upd d_ 2)) := O.step (show ∀ e ∈ ([1] : List Nat), d_ e = true by simp [hdep])
      have q1 : d_ 1 = true := by simp [hdep]
      clear O
      rw [pk_of q1]
      obtain ⟨hP, hN⟩ := ch5_s1 F hd_
      obtain ⟨hz_, hR⟩ := ka2.out w1 hP
      have HF := Lib.hid (hN _ hR)
      clear F hP hR hN hdep
      go_simp
      try rw [hz_]
      have HG := HF.out
      refine HK.out _ _ ⟨?_, HG, HO.out⟩
      rw [pk_of (show upd d_ 2 1 = true from q1)]
      all_goals rfl
    · have HO : Hid (OrdP [[], [], [1], [0, 2], [], [4], [5], [], [7], [8], [0, 1, 2, 3], [0, 1, 2, 3, 4, 5, 6, 10], [0, 1, 2, 3, 4, 5, 6, 7, 8, 9, 10, 11]] (upd d_ 3)) := O.step (show ∀ e ∈ ([0, 2] : List Nat), d_ e = true by simp [hdep])
      have q0 : d_ 0 = true := by simp [hdep]
      have q2 : d_ 2 = true := by simp [hdep]
      clear O
      rw [pk_of q0, pk_of q2]
      obtain ⟨hP, hN⟩ := ch5_s2 F (show d_ 2 = true by simp [hdep]) hd_
      obtain ⟨w5, kk, hR⟩ := kr3.out w1 hP
      have HF := Lib.hid (hN _ hR)
      clear F hP hR hN hdep
      rw [if_pos (by rfl)]
      refine wpInR_append_run (.tmp 55) (.tmp 57) 31 rfl _ _ _ _ rfl rfl kk ?_
      have HG := HF.out
      refine HK.out _ _ ⟨?_, HG, HO.out⟩
      rw [pk_of (show upd d_ 3 0 = true from q0), pk_of (show upd d_ 3 2 = true from q2)]
      all_goals rfl
    · have HO : Hid (OrdP [[], [], [1], [0, 2], [], [4], [5], [], [7], [8], [0, 1, 2, 3], [0, 1, 2, 3, 4, 5, 6, 10], [0, 1, 2, 3, 4, 5, 6, 7, 8, 9, 10, 11]] (upd d_ 4)) := O.step (show ∀ e ∈ ([] : List Nat), d_ e = true by simp [hdep])
      clear O
      have HF := Lib.hid F
      clear F hdep
      go_simp
      refine HK.out _ _ ⟨?_, HF.out, HO.out⟩
      all_goals rfl
    · have HO : Hid (OrdP [[], [], [1], [0, 2], [], [4], [5], [], [7], [8], [0, 1, 2, 3], [0, 1, 2, 3, 4, 5, 6, 10], [0, 1, 2, 3, 4, 5, 6, 7, 8, 9, 10, 11]] (upd d_ 5)) := O.step (show ∀ e ∈ ([4] : List Nat), d_ e = true by simp [hdep])
      have q4 : d_ 4 = true := by simp [hdep]
      have kk := kl5.out w1 (ch5_or F)
      clear O
      rw [pk_of q4]
      have HF := Lib.hid F
      clear F hdep
      go_simp
      refine HK.out _ _ ⟨?_, HF.out, HO.out⟩
      rw [pk_of (show upd d_ 5 4 = true from q4)]
      all_goals rfl
    · have HO : Hid (OrdP [[], [], [1], [0, 2], [], [4], [5], [], [7], [8], [0, 1, 2, 3], [0, 1, 2, 3, 4, 5, 6, 10], [0, 1, 2, 3, 4, 5, 6, 7, 8, 9, 10, 11]] (upd d_ 6)) := O.step (show ∀ e ∈ ([5] : List Nat), d_ e = true by simp [hdep])
      have q5 : d_ 5 = true := by simp [hdep]
      clear O
      have hp2 := hp
      rw [pk_of q5]
      have HF := Lib.hid F
      clear F hdep
      go_simp
      refine HK.out _ _ ⟨?_, HF.out, HO.out⟩
      rw [pk_of (show upd d_ 6 5 = true from q5)]
      all_goals rfl
    · have HO : Hid (OrdP [[], [], [1], [0, 2], [], [4], [5], [], [7], [8], [0, 1, 2, 3], [0, 1, 2, 3, 4, 5, 6, 10], [0, 1, 2, 3, 4, 5, 6, 7, 8, 9, 10, 11]] (upd d_ 7)) := O.step (show ∀ e ∈ ([] : List Nat), d_ e = true by simp [hdep])
      clear O
      have HF := Lib.hid F
      clear F hdep
      go_simp
      refine HK.out _ _ ⟨?_, HF.out, HO.out⟩
      all_goals rfl
    · have HO : Hid (OrdP [[], [], [1], [0, 2], [], [4], [5], [], [7], [8], [0, 1, 2, 3], [0, 1, 2, 3, 4, 5, 6, 10], [0, 1, 2, 3, 4, 5, 6, 7, 8, 9, 10, 11]] (upd d_ 8)) := O.step (show ∀ e ∈ ([7] : List Nat), d_ e = true by simp [hdep])
      have q7 : d_ 7 = true := by simp [hdep]
      have kk := kl8.out w1 (ch5_or F)
      clear O
      rw [pk_of q7]
      have HF := Lib.hid F
      clear F hdep
      go_simp
      refine HK.out _ _ ⟨?_, HF.out, HO.out⟩
      rw [pk_of (show upd d_ 8 7 = true from q7)]
      all_goals rfl
    · have HO : Hid (OrdP [[], [], [1], [0, 2], [], [4], [5], [], [7], [8], [0, 1, 2, 3], [0, 1, 2, 3, 4, 5, 6, 10], [0, 1, 2, 3, 4, 5, 6, 7, 8, 9, 10, 11]] (upd d_ 9)) := O.step (show ∀ e ∈ ([8] : List Nat), d_ e = true by simp [hdep])
      have q8 : d_ 8 = true := by simp [hdep]
      clear O
      have hq2 := hq
      rw [pk_of q8]
      have HF := Lib.hid F
      clear F hdep
      go_simp
      refine HK.out _ _ ⟨?_, HF.out, HO.out⟩
      rw [pk_of (show upd d_ 9 8 = true from q8)]
      all_goals rfl
    · have HO : Hid (OrdP [[], [], [1], [0, 2], [], [4], [5], [], [7], [8], [0, 1, 2, 3], [0, 1, 2, 3, 4, 5, 6, 10], [0, 1, 2, 3, 4, 5, 6, 7, 8, 9, 10, 11]] (upd d_ 10)) := O.step (show ∀ e ∈ ([0, 1, 2, 3] : List Nat), d_ e = true by simp [hdep])
      have q3 : d_ 3 = true := by simp [hdep]
      clear O
      rw [pk_of q3]
      obtain ⟨hP, hN⟩ := ch5_s3 F (show d_ 3 = true by simp [hdep]) hd_
      obtain ⟨⟨u0, c0⟩, z0, hR⟩ := ks10.out w1 hP
      have HF := Lib.hid (hN _ hR)
      clear F hP hR hN hdep
      go_simp
      have HG := HF.out
      refine HK.out _ _ ⟨?_, HG, HO.out⟩
      rw [pk_of (show upd d_ 10 3 = true from q3)]
      all_goals rfl
    · have HO : Hid (OrdP [[], [], [1], [0, 2], [], [4], [5], [], [7], [8], [0, 1, 2, 3], [0, 1, 2, 3, 4, 5, 6, 10], [0, 1, 2, 3, 4, 5, 6, 7, 8, 9, 10, 11]] (upd d_ 11)) := O.step (show ∀ e ∈ ([0, 1, 2, 3, 4, 5, 6, 10] : List Nat), d_ e = true by simp [hdep])
      have q6 : d_ 6 = true := by simp [hdep]
      clear O
      rw [pk_of q6]
      obtain ⟨hP, hN⟩ := ch5_s4 F (show d_ 10 = true by simp [hdep]) hd_
      obtain ⟨⟨u0, c0⟩, z0, hR⟩ := ks11.out w1 hP
      have HF := Lib.hid (hN _ hR)
      clear F hP hR hN hdep
      go_simp
      have HG := HF.out
      refine HK.out _ _ ⟨?_, HG, HO.out⟩
      rw [pk_of (show upd d_ 11 6 = true from q6)]
      all_goals rfl
    · have HO : Hid (OrdP [[], [], [1], [0, 2], [], [4], [5], [], [7], [8], [0, 1, 2, 3], [0, 1, 2, 3, 4, 5, 6, 10], [0, 1, 2, 3, 4, 5, 6, 7, 8, 9, 10, 11]] (upd d_ 12)) := O.step (show ∀ e ∈ ([0, 1, 2, 3, 4, 5, 6, 7, 8, 9, 10, 11] : List Nat), d_ e = true by simp [hdep])
      have q9 : d_ 9 = true := by simp [hdep]
      clear O
      rw [pk_of q9]
      obtain ⟨hP, hN⟩ := ch5_s5 F (show d_ 11 = true by simp [hdep]) hd_
      obtain ⟨⟨u0, c0⟩, z0, hR⟩ := ks12.out w1 hP
      have HF := Lib.hid (hN _ hR)
      clear F hP hR hN hdep
      go_simp
      have HG := HF.out
      refine HK.out _ _ ⟨?_, HG, HO.out⟩
      rw [pk_of (show upd d_ 12 9 = true from q9)]
      all_goals rfl
  · rintro d_ a_ w1 hall ⟨rfl, F, O⟩
    have hall' : ∀ k, k < 13 → d_ k = true := hall
    rw [hall' 2 (by decide), hall' 3 (by decide), hall' 10 (by decide), hall' 11 (by decide), hall' 12 (by decide)] at F
    have HF := Lib.hid F
    clear F
    rw [pk_of (hall' 0 (by decide)), pk_of (hall' 1 (by decide)), pk_of (hall' 2 (by decide)), pk_of (hall' 3 (by decide)), pk_of (hall' 4 (by decide)), pk_of (hall' 5 (by decide)), pk_of (hall' 6 (by decide)), pk_of (hall' 7 (by decide)), pk_of (hall' 8 (by decide)), pk_of (hall' 9 (by decide))]
    exact HQ.out w1 HF.out
end Go.Proofs.YtbnhngfegnhaiaaDoor
namespace Go.Proofs.YtbnhngfegnhaiaaDoor
open Go.RowKit
set_option linter.unusedVariables false
set_option linter.unusedSimpArgs false
def prV (l : List (Nat × Nat)) : List Value := l.flatMap fun p => [.int .i64 p.1, .int .i64 p.2]
theorem prV_add (l : List (Nat × Nat)) (p : Nat × Nat) : prV (l ++ [p]) = prV l ++ [.int .i64 p.1, .int .i64 p.2] := by
  simp [prV]
theorem infoP : (Tryd.prog.info? 42).map (fun i => (i.zero, i.size, i.bytes)) = some (some (.agg #[.int .i64 0, .int .i64 0]), 2, 16) := by kernel_rfl
theorem app_pair {w : World} {base ms : Nat} {l : List (Nat × Nat)} {p : Nat × Nat} {q : Option Addr × Nat} (hl : l.length ≤ 100) (hb : base ≤ w.heap.size) (hx : w.ownsRow base 42 2 (.slice q.1 l.length q.2) l.length (prV l)) (hm : w.heap[ms]? = some (.cells #[.int .i64 p.1, .int .i64 p.2] 42 (0, 0))) :
    ∃ (q1 : Option Addr × Nat) (w' : World), (Builtin.append_ #[31, 31] 31 #[.slice q.1 l.length q.2, .slice (some ⟨ms, 0, none⟩) 1 1]).run Tryd.prog w = .ok (.slice q1.1 (l.length + 1) q1.2) w' ∧ w'.ownsRow base 42 2 (.slice q1.1 (l.length + 1) q1.2) (l.length + 1) (prV (l ++ [p])) ∧ w.grownBy w' (Value.slice q.1 l.length q.2).ownBlock ∧
      ((Value.slice q1.1 (l.length + 1) q1.2).ownBlock = (Value.slice q.1 l.length q.2).ownBlock ∨ (Value.slice q1.1 (l.length + 1) q1.2).ownBlock = some w.heap.size) := by
  obtain ⟨i0, hi0, hz0, hz1, hz2⟩ := info_parts infoP
  obtain ⟨v', w', hr, hn, hg, hor⟩ := append_rows_at (P := Tryd.prog) (w := w) base 31 31 42 i0 _ 2 16 Tryd.underlying31 hi0 hz0 hz1 hz2 rfl (by decide) _ l.length _ hx (some ⟨ms, 0, none⟩) 1 1 [.int .i64 p.1, .int .i64 p.2] rfl
    (fun _ => ⟨_, rfl, fun j u hj => by
      have e : ((⟨ms, 0, none⟩ : Addr).add j) = ⟨ms, j, none⟩ := by unfold Addr.add; split <;> simp_all
      rw [e, cell_of_heap hm, ← hj]
      simp⟩) (by intro u hu; simp at hu; rcases hu with rfl | rfl <;> rfl) (by simp [maxLen]; omega) (by omega) hb
  rw [← prV_add] at hn
  obtain ⟨a', c', rfl, _⟩ := own_slice hn
  exact ⟨(a', c'), w', hr, hn, hg, hor⟩
theorem own_ty {w : World} {base : Nat} {e : TypeId} {size : Nat} {v : Value} {n g : Nat} {xs : List Value} (h : w.ownsRow base e size v n xs) (hg : v.ownBlock = some g) : base ≤ g ∧ ∃ cur, w.heap[g]? = some (.cells cur e (0, 0)) := by
  rcases h.2 with ⟨rfl, _⟩ | ⟨g', cap, cur, rfl, hb, hh, _⟩
  · cases hg
  · cases hg
    exact ⟨hb, cur, hh⟩
theorem own_same {w w' : World} {M : Nat → Prop} {base : Nat} {e : TypeId} {size : Nat} {v : Value} {n : Nat} {xs : List Value} (h : w.ownsRow base e size v n xs) (hs : Same M w w') (hM : ∀ j, M j → v.ownBlock ≠ some j) : w'.ownsRow base e size v n xs := by
  refine ⟨h.1, ?_⟩
  rcases h.2 with hn | ⟨g, cap, cur, rfl, hb, hh, rest⟩
  · exact .inl hn
  · exact .inr ⟨g, cap, cur, rfl, hb, (hs.block g (heap_lt hh) (fun e => hM g e rfl)).trans hh, rest⟩
def fitT (r : Rws) : Nat → Bool := fun j => r.fit (j / 10) (j % 10)
theorem fitT_at (r : Rws) {a b : Nat} (hb : b < 10) : fitT r (a * 10 + b) = r.fit a b := by
  unfold fitT
  rw [show (a * 10 + b) / 10 = a by omega, show (a * 10 + b) % 10 = b by omega]
def fewU (r : Rws) : Nat → Int := dI (fun a c => fitT r (a * 10 + c)) r.left.length r.right.length 0 0
theorem fewU_at {r : Rws} (l2 : r.right.length ≤ 10) {a b : Nat} (ha : a ≤ r.left.length) (hb : b ≤ r.right.length) : fewU r (a * 11 + b) = (mst r.fit r.left.length r.right.length (r.left.length - a) (r.right.length - b) : Nat) := by
  unfold fewU
  rw [dI_at _ _ _ (by omega) (by omega)]
  exact congrArg (fun z : Nat => (z : Int)) (mst_congr (fun i k _ hk => fitT_at r (by omega)) _ _ (by omega) (by omega))
/-- What lies in memory while the way is gathered. -/
structure FewW (r : Rws) (al : Option Addr) (cl : Nat) (ar : Option Addr) (cr : Nat) (w0 : World) (b b2 b6 p7 : Nat) (x p8 p9 i k : Nat) (l : List (Nat × Nat)) (q : Option Addr × Nat) (V : World) : Prop where
  le : Below w0.heap.size w0 V
  rws : V.heap[b]? = some (.cells (rowsL r al cl ar cr (fitT r) r.need).toArray 130 (0, 0))
  tab : V.heap[b6]? = some (.cells (numL (fewU r)).toArray 72 (0, 0))
  left : V.heap[p7]? = some (.cells #[.int .i64 x] 3 (0, 0))
  ci : V.heap[p8]? = some (.cells #[.int .i64 i] 3 (0, 0))
  ck : V.heap[p9]? = some (.cells #[.int .i64 k] 3 (0, 0))
  row : V.heap[b2]? = some (.cells #[.slice q.1 l.length q.2] 31 (0, 0))
  own : V.ownsRow w0.heap.size 42 2 (.slice q.1 l.length q.2) l.length (prV l)
  lo : w0.heap.size ≤ b2 ∧ w0.heap.size ≤ p7 ∧ w0.heap.size ≤ p8 ∧ w0.heap.size ≤ p9
  ne : p7 ≠ p8 ∧ p7 ≠ p9 ∧ p8 ≠ p9
theorem FewW.keep {r : Rws} {al ar : Option Addr} {cl cr : Nat} {w0 : World} {b b2 b6 p7 x p8 p9 i k : Nat} {l : List (Nat × Nat)} {q : Option Addr × Nat} {V V' : World} {M : Nat → Prop} (h : FewW r al cl ar cr w0 b b2 b6 p7 x p8 p9 i k l q V) (hs : Same M V V')
    (hM : ∀ j, M j → w0.heap.size ≤ j ∧ (j < V.heap.size → (∀ c t f, V.heap[j]? ≠ some (.cells c t f)))) : FewW r al cl ar cr w0 b b2 b6 p7 x p8 p9 i k l q V' := by
  have hk : ∀ {j : Nat} {c : Array Value} {t : TypeId} {f : Nat × Nat}, V.heap[j]? = some (.cells c t f) → V'.heap[j]? = some (.cells c t f) := fun {j c t f} e => (hs.block j (heap_lt e) (fun m => (hM j m).2 (heap_lt e) c t f e)).trans e
  refine ⟨h.le.trans (hs.below h.le.size (fun j hj m => by have := (hM j m).1; omega)), hk h.rws, hk h.tab, hk h.left, hk h.ci, hk h.ck, hk h.row, own_same h.own hs (fun j m e => ?_), h.lo, h.ne⟩
  obtain ⟨_, cur, hc⟩ := own_ty h.own e
  exact (hM j m).2 (heap_lt hc) _ _ _ hc
/-- How far the way is gathered. -/
structure FewH (r : Rws) (x i k : Nat) (l : List (Nat × Nat)) : Prop where
  all : r.few = l ++ fewL r.fit r.left.length r.right.length x i k
  hi : i ≤ r.left.length
  hk : k ≤ r.right.length
  most : mst r.fit r.left.length r.right.length (r.left.length - i) (r.right.length - k) = x
theorem FewH.step {r : Rws} {y i k : Nat} {l : List (Nat × Nat)} (h : FewH r (y + 1) i k l) : ∃ p, (pairsFrom r.fit r.left.length r.right.length i k).find? (goodP r.fit r.left.length r.right.length (y + 1)) = some p ∧ FewH r y (p.1 + 1) (p.2 + 1) (l ++ [p]) := by
  obtain ⟨p, hf, g1, g2, g3, g4, g5, g6⟩ := few_find h.hi h.hk h.most
  refine ⟨p, hf, ⟨?_, by omega, by omega, g6⟩⟩
  rw [h.all]
  conv => lhs; unfold fewL
  rw [hf]
  simp
/-- What holds while pairs are looked at: none yet. -/
structure FewI (r : Rws) (i k x : Nat) (w5 : World) (L : List (Nat × Nat)) (V : World) (C : Nat → Prop) : Prop where
  le : Below w5.heap.size w5 V
  find : (pairsFrom r.fit r.left.length r.right.length i k).find? (goodP r.fit r.left.length r.right.length x) = L.find? (goodP r.fit r.left.length r.right.length x)
  dn : ∃ dn, pairsFrom r.fit r.left.length r.right.length i k = dn ++ L
  hC : ∀ j, j < w5.heap.size + 2 → C j
/-- What holds when one has been found. -/
structure FewX (r : Rws) (al : Option Addr) (cl : Nat) (ar : Option Addr) (cr : Nat) (w0 : World) (b b2 b6 p7 x p8 p9 i k : Nat) (l : List (Nat × Nat)) (w5 : World) (c : Code) (V : World) : Prop where
  code : c = .exit 2
  got : ∃ p q', (pairsFrom r.fit r.left.length r.right.length i k).find? (goodP r.fit r.left.length r.right.length x) = some p ∧ FewW r al cl ar cr w0 b b2 b6 p7 x p8 p9 (p.1 + 1) (p.2 + 1) (l ++ [p]) q' V ∧ (Value.slice q'.1 (l ++ [p]).length q'.2).ownBlock ≠ some (w5.heap.size + 1)
  marks : ∀ j, j < w5.heap.size → w5.heap[j]? = some (.deferred (some [])) → V.heap[j]? = some (.deferred (some []))
  big : w5.heap.size + 1 < V.heap.size
theorem FewW.keep2 {r : Rws} {al ar : Option Addr} {cl cr : Nat} {w0 : World} {b b2 b6 p7 x p8 p9 i k : Nat} {l : List (Nat × Nat)} {q : Option Addr × Nat} {V V' : World} {M : Nat → Prop} (h : FewW r al cl ar cr w0 b b2 b6 p7 x p8 p9 i k l q V) (hs : Same M V V')
    (hM : ∀ j, M j → w0.heap.size ≤ j ∧ j ≠ b ∧ j ≠ b2 ∧ j ≠ b6 ∧ j ≠ p7 ∧ j ≠ p8 ∧ j ≠ p9 ∧ (Value.slice q.1 l.length q.2).ownBlock ≠ some j) : FewW r al cl ar cr w0 b b2 b6 p7 x p8 p9 i k l q V' := by
  have hk : ∀ {j : Nat} {c : Array Value} {t : TypeId} {f : Nat × Nat}, ¬ M j → V.heap[j]? = some (.cells c t f) → V'.heap[j]? = some (.cells c t f) := fun {j c t f} hn e => (hs.block j (heap_lt e) hn).trans e
  exact ⟨h.le.trans (hs.below h.le.size (fun j hj m => by have := (hM j m).1; omega)), hk (fun m => (hM _ m).2.1 rfl) h.rws, hk (fun m => (hM _ m).2.2.2.1 rfl) h.tab, hk (fun m => (hM _ m).2.2.2.2.1 rfl) h.left, hk (fun m => (hM _ m).2.2.2.2.2.1 rfl) h.ci, hk (fun m => (hM _ m).2.2.2.2.2.2.1 rfl) h.ck, hk (fun m => (hM _ m).2.2.1 rfl) h.row,
    own_same h.own hs (fun j m => (hM j m).2.2.2.2.2.2.2), h.lo, h.ne⟩
attribute [local go_sem] Oper.semAt_some
theorem cell_at0 {w : World} {b : Nat} {v : Value} {t : TypeId} {f : Nat × Nat} (h : w.heap[b]? = some (.cells #[v] t f)) : w.cell? ⟨b, 0, none⟩ = some v := by rw [cell_of_heap h]; rfl
noncomputable def few10C : Code := (Tryd.f7.body.bind (fromRegion 10)).getD .skip
set_option maxRecDepth 100000 in
set_option maxHeartbeats 16000000 in
theorem few10 {r : Rws} {al ar : Option Addr} {cl cr : Nat} {w0 V : World} {b b2 b6 p7 y p8 p9 i k : Nat} {l : List (Nat × Nat)} {q : Option Addr × Nat} {Q : Exit → Act → World → Prop} (l1 : r.left.length ≤ 10) (l2 : r.right.length ≤ 10) (hm : IsMks w0 al r.left ∧ IsMks w0 ar r.right) (hl : l.length ≤ 10)
    (hI : FewW r al cl ar cr w0 b b2 b6 p7 (y + 1) p8 p9 i k l q V) (hH : FewH r (y + 1) i k l) {s0 s1 s3 s4 s10 s11 s12 s13 s14 s15 s16 s17 s18 s19 s20 s21 s22 s23 s24 s25 s26 s27 s28 s29 s30 s31 s32 s33 s34 s35 s36 s37 s38 s39 s40 s41 s42 s43 s44 s45 s46 s47 s48 s49 s50 s51 s52 s53 s54 s55 s56 s57 s58 s59 s60 s61 s62 s63 s64 s65 s66 s67 s68 : Value} {dd : List Deferred}
    (hQ : ∀ (D : Nat) (p : Nat × Nat) (q' : Option Addr × Nat) (W : World), V.heap.size ≤ D → W.heap[D]? = some (.deferred (some [])) → (∀ j, j < V.heap.size → V.heap[j]? = some (.deferred (some [])) → W.heap[j]? = some (.deferred (some []))) →
      FewW r al cl ar cr w0 b b2 b6 p7 (y + 1) p8 p9 (p.1 + 1) (p.2 + 1) (l ++ [p]) q' W → FewH r y (p.1 + 1) (p.2 + 1) (l ++ [p]) → Q .normal { tmps := List.toArray (s0 :: s1 :: .pointer (some ⟨b2, 0, none⟩) :: s3 :: s4 :: .pointer (some ⟨b, 0, none⟩) :: .pointer (some ⟨b6, 0, none⟩) :: .pointer (some ⟨p7, 0, none⟩) :: .pointer (some ⟨p8, 0, none⟩) :: .pointer (some ⟨p9, 0, none⟩) :: s10 :: s11 :: s12 :: s13 :: s14 :: s15 :: s16 :: s17 :: s18 :: s19 :: s20 :: s21 :: s22 :: s23 :: s24 :: s25 :: s26 :: s27 :: s28 :: s29 :: s30 :: s31 :: s32 :: s33 :: s34 :: s35 :: s36 :: s37 :: .pointer (some ⟨b, 0, none⟩) :: .int .i64 ((i : Int)) :: .int .i64 ((k : Int)) :: .func (.func 67) #[] #[.pointer (some ⟨V.heap.size + 1, 0, none⟩), .pointer (some ⟨V.heap.size, 0, none⟩), .pointer (some ⟨V.heap.size + 2, 0, none⟩)] :: s42 :: s43 :: s44 :: s45 :: s46 :: s47 :: s48 :: s49 :: s50 :: s51 :: s52 :: s53 :: s54 :: s55 :: s56 :: s57 :: s58 :: s59 :: s60 :: s61 :: s62 :: s63 :: s64 :: s65 :: s66 :: s67 :: s68 :: []), defers := { target := .collected D, args := #[] } :: dd } W) :
    Code.wp Tryd.prog few10C Q { tmps := List.toArray (s0 :: s1 :: .pointer (some ⟨b2, 0, none⟩) :: s3 :: s4 :: .pointer (some ⟨b, 0, none⟩) :: .pointer (some ⟨b6, 0, none⟩) :: .pointer (some ⟨p7, 0, none⟩) :: .pointer (some ⟨p8, 0, none⟩) :: .pointer (some ⟨p9, 0, none⟩) :: s10 :: s11 :: s12 :: s13 :: s14 :: s15 :: s16 :: s17 :: s18 :: s19 :: s20 :: s21 :: s22 :: s23 :: s24 :: s25 :: s26 :: s27 :: s28 :: s29 :: s30 :: s31 :: s32 :: s33 :: s34 :: s35 :: s36 :: s37 :: s38 :: s39 :: s40 :: s41 :: s42 :: s43 :: s44 :: s45 :: s46 :: s47 :: s48 :: s49 :: s50 :: s51 :: s52 :: s53 :: s54 :: s55 :: s56 :: s57 :: s58 :: s59 :: s60 :: s61 :: s62 :: s63 :: s64 :: s65 :: s66 :: s67 :: s68 :: []), defers := dd } V := by
  have HQ := Lib.hid hQ
  have HI := Lib.hid hI
  have HH := Lib.hid hH
  have HM := Lib.hid hm
  have HL := Lib.hid (And.intro l1 (And.intro l2 hl))
  have c8 := cell_at0 hI.ci
  have c9 := cell_at0 hI.ck
  clear hQ hI hH hm hl l1 l2
  conv => arg 2; whnf
  refine wp_seq_hid ?_
  intro K HK
  go_wp2_with fail
  refine (pairs70 (i := i) (k := k) V).mono ?_
  rintro e w5 ⟨rfl, hw5⟩
  have HW5 : Hid (Below V.heap.size V w5 ∧ w5.heap.size = V.heap.size + 3 ∧ w5.heap[V.heap.size]? = some (.cells #[.pointer (some ⟨b, 0, none⟩)] 68 (0, 0)) ∧ w5.heap[V.heap.size + 1]? = some (.cells #[.int .i64 i] 3 (0, 0)) ∧ w5.heap[V.heap.size + 2]? = some (.cells #[.int .i64 k] 3 (0, 0))) := by
    obtain ⟨g1, g2, g3, g4⟩ := alloc3 V #[.pointer (some ⟨b, 0, none⟩)] #[.int .i64 i] #[.int .i64 k] 68 3 3 _ rfl
    rw [hw5]
    exact ⟨g4, by simp, g1, g2, g3⟩
  clear hw5 c8 c9
  go_wp2_with fail
  refine HK.out _ _ ?_
  clear HK K
  refine wp_block ?_
  have HPC : Hid (pairsFrom (fun a c => fitT r (a * 10 + c)) r.left.length r.right.length i k = pairsFrom r.fit r.left.length r.right.length i k) := pairs_congr (fun a c _ hc => fitT_at r (by have := HL.out.2.1; omega)) i k
  have HOB : Hid (∀ j, (Value.slice q.1 l.length q.2).ownBlock = some j → w0.heap.size ≤ j ∧ j < V.heap.size ∧ ∃ cur, V.heap[j]? = some (.cells cur 42 (0, 0))) := fun j hj => by
    obtain ⟨h1, cur, h2⟩ := own_ty HI.out.own hj
    exact ⟨h1, heap_lt h2, cur, h2⟩
  have hz5 := HW5.out.2.1
  have hbl : b2 < V.heap.size ∧ p8 < V.heap.size ∧ p9 < V.heap.size := ⟨heap_lt HI.out.row, heap_lt HI.out.ci, heap_lt HI.out.ck⟩
  refine wp_rangeFuncM (gf := 67) (lb := #[.pointer (some ⟨V.heap.size + 1, 0, none⟩), .pointer (some ⟨V.heap.size, 0, none⟩), .pointer (some ⟨V.heap.size + 2, 0, none⟩)]) rfl (fun args w => by simp [callFunc, Tryd.func67, Tryd.f67, go_sem]) (pairsFrom r.fit r.left.length r.right.length i k) PrOk
    (fun j => j = b2 ∨ j = p8 ∨ j = p9 ∨ (Value.slice q.1 l.length q.2).ownBlock = some j ∨ j = w5.heap.size + 1) ?hps ?hMD (by simp) ?hit
    (fun L V C => FewI r i k (y + 1) w5 L V C) (fun c _ V C => FewX r al cl ar cr w0 b b2 b6 p7 (y + 1) p8 p9 i k l w5 c V) ?hI ?hIx ?h0 ?hround ?hdone ?hstop
  case hps =>
    rintro x v A K ⟨rfl, _⟩
    rfl
  case hMD =>
    rintro (e | e | e | e | e)
    · omega
    · omega
    · omega
    · have := (HOB.out _ e).2.1; omega
    · omega
  case hit =>
    intro W hb hsz
    rw [← HPC.out]
    have hi := HH.out.hi
    have hk := HH.out.hk
    have g1 := HL.out.1
    have g2 := HL.out.2.1
    refine pairs_iter (r := r) (b := b) (al := al) (ar := ar) (cl := cl) (cr := cr) (T := fitT r) (need := r.need) HL.out.1 HL.out.2.1 (by omega) (by omega) (fun A hA => ?_)
    obtain ⟨g1, g2, g3, g4, g5⟩ := HW5.out
    have hn : ∀ j c t f, w5.heap[j]? = some (.cells c t f) → j ≠ b2 → j ≠ p8 → j ≠ p9 → (Value.slice q.1 l.length q.2).ownBlock ≠ some j → A.heap[j]? = some (.cells c t f) := fun j c t f h1 h2 h3 h4 h5 => ((hA.block j (by have := heap_lt h1; omega) (fun e => by
      rcases e with e | e | e | e | e
      · exact h2 e
      · exact h3 e
      · exact h4 e
      · exact h5 e
      · have := heap_lt h1; omega)).trans (hb.block j (heap_lt h1))).trans h1
    have hnew : ∀ j, V.heap.size ≤ j → j ≠ b2 ∧ j ≠ p8 ∧ j ≠ p9 ∧ (Value.slice q.1 l.length q.2).ownBlock ≠ some j := fun j hj => ⟨by omega, by omega, by omega, fun e => by have := (HOB.out _ e).2.1; omega⟩
    have hAw : Below w0.heap.size w0 A := by
      have h1 : Below w0.heap.size w0 W := HI.out.le.trans ((g1.trans (hb.mono g1.size)).mono HI.out.le.size)
      refine h1.trans (hA.below h1.size (fun j hj e => ?_))
      obtain ⟨e1, e2, e3, e4⟩ := HI.out.lo
      have hls := HI.out.le.size
      rcases e with e | e | e | e | e
      · omega
      · omega
      · omega
      · have := (HOB.out _ e).1; omega
      · omega
    have hrb : A.heap[b]? = some (.cells (rowsL r al cl ar cr (fitT r) r.need).toArray 130 (0, 0)) := by
      have h5 := (g1.block _ (heap_lt HI.out.rws)).trans HI.out.rws
      refine hn b _ _ _ h5 (fun e => ?_) (fun e => ?_) (fun e => ?_) (fun e => ?_)
      · have := HI.out.rws; rw [e, HI.out.row] at this; simp at this
      · have := HI.out.rws; rw [e, HI.out.ci] at this; simp at this
      · have := HI.out.rws; rw [e, HI.out.ck] at this; simp at this
      · obtain ⟨_, _, cur, h⟩ := HOB.out _ e
        have := HI.out.rws; rw [h] at this; simp at this
    have t1 := hnew V.heap.size (Nat.le_refl _)
    have t2 := hnew (V.heap.size + 1) (by omega)
    have t3 := hnew (V.heap.size + 2) (by omega)
    exact ⟨cell_at0 (hn _ _ _ _ g4 t2.1 t2.2.1 t2.2.2.1 t2.2.2.2), cell_at0 (hn _ _ _ _ g3 t1.1 t1.2.1 t1.2.2.1 t1.2.2.2), cell_at0 (hn _ _ _ _ g5 t3.1 t3.2.1 t3.2.2.1 t3.2.2.2), ⟨hrb, HM.out.1.mono hAw, HM.out.2.mono hAw⟩⟩
  case hI =>
    intro i' A B C h hs
    exact ⟨h.le.trans (hs.below h.le.size (fun j hj e => by omega)), h.find, h.dn, h.hC⟩
  case hIx =>
    intro c i' A B C h hs
    refine ⟨h.code, ?_, fun j hj hd => (hs.block j (by have := h.big; omega) (by omega)).trans (h.marks j hj hd), by have := hs.size; have := h.big; omega⟩
    obtain ⟨p, q', h1, h2, h3⟩ := h.got
    refine ⟨p, q', h1, h2.keep2 hs (fun j e => ?_), h3⟩
    subst e
    have g1 := HI.out.le.size
    have g2 := HW5.out.1.size
    have g3 := heap_lt HI.out.rws
    have g4 := heap_lt HI.out.tab
    have g5 := heap_lt HI.out.left
    exact ⟨by omega, by omega, by omega, by omega, by omega, by omega, by omega, h3⟩
  case h0 =>
    intro W hb hsz
    exact ⟨hb, rfl, ⟨[], rfl⟩, fun j hj => hj⟩
  case hdone =>
    rintro W C h hdef
    exfalso
    obtain ⟨p, hp, _⟩ := HH.out.step
    rw [h.find] at hp
    cases hp
  case hstop =>
    rintro c L W C h hdef
    obtain ⟨p, q', h1, h2, _⟩ := h.got
    obtain ⟨p', hp', hH'⟩ := HH.out.step
    rw [h1] at hp'
    obtain rfl := Option.some.inj hp'
    rw [h.code]
    refine wp_exit ?_
    exact HQ.out w5.heap.size p q' W (by omega) hdef (fun j hj hd => h.marks j (by omega) ((HW5.out.1.block j hj).trans hd)) h2 hH'
  case hround =>
    rintro x L v V1 C K ⟨rfl, rfl⟩ hKC hC hi hlt
    have HHi := Lib.hid (And.intro hi (And.intro hC hlt))
    clear hi hC hlt hKC
    gi_wp2_with fail
    refine ⟨(Below.refl _ _).alloc (Nat.le_refl _) _, fun V2 hS2 hsz2 => ?_⟩
    obtain ⟨hi, hC, hlt⟩ := HHi.out
    have hmem : x ∈ pairsFrom r.fit r.left.length r.right.length i k := by
      obtain ⟨dn, e⟩ := hi.dn
      rw [e]
      simp
    obtain ⟨x1, x2, x3, x4, _⟩ := mem_pairs.1 hmem
    obtain ⟨l1, l2, hl⟩ := HL.out
    have hszV : (V1.alloc (.cells #[.int .i64 x.1, .int .i64 x.2] 42)).heap.size = V1.heap.size + 1 := by simp
    have hb5V : Below w5.heap.size w5 V2 := by
      refine (hi.le.trans ((alloc_below V1 (.cells #[.int .i64 x.1, .int .i64 x.2] 42)).mono hi.le.size)).trans (hS2.below ?_ (fun j hj e => by omega))
      have := hi.le.size
      omega
    have h10 : V2.heap[V1.heap.size]? = some (.cells #[.int .i64 x.1, .int .i64 x.2] 42 (0, 0)) := (hS2.block _ (by omega) (by omega)).trans (World.alloc_heap_new V1 _)
    have hV2 : FewW r al cl ar cr w0 b b2 b6 p7 (y + 1) p8 p9 i k l q V2 := HI.out.keep (Same.of_below (fun _ => False) (HW5.out.1.trans (hb5V.mono HW5.out.1.size))) (fun j e => e.elim)
    have hz2 : V1.heap.size + 1 ≤ V2.heap.size := by omega
    have hcu : V2.heap[b6]? = some (.cells (numL (fewU r)).toArray 72 (0, 0)) := hV2.tab
    have hy0 := fewU_at (r := r) l2 (a := x.1 + 1) (b := x.2 + 1) (by omega) (by omega)
    have hcell : V2.cell? ⟨b6, (x.1 + 1) * 11 + (x.2 + 1), none⟩ = some (.int .i64 (mst r.fit r.left.length r.right.length (r.left.length - (x.1 + 1)) (r.right.length - (x.2 + 1)) : Nat)) := by
      rw [num_cell hcu (by omega), hy0]
    have hmle : mst r.fit r.left.length r.right.length (r.left.length - (x.1 + 1)) (r.right.length - (x.2 + 1)) ≤ 10 := Nat.le_trans (mst_le _ _ _ _ _) (by omega)
    have hgd : goodP r.fit r.left.length r.right.length (y + 1) x = ((1 + ((mst r.fit r.left.length r.right.length (r.left.length - (x.1 + 1)) (r.right.length - (x.2 + 1)) : Nat) : Int)) == ((y + 1 : Nat) : Int)) := by
      unfold goodP
      rw [Bool.eq_iff_iff]
      simp only [decide_eq_true_eq, beq_iff_eq]
      omega
    have hfd := hi.find
    rw [List.find?_cons] at hfd
    have hly : y + 1 ≤ 10 := by rw [← HH.out.most]; exact Nat.le_trans (mst_le _ _ _ _ _) (by omega)
    have HF := Lib.hid (And.intro hb5V (And.intro h10 (And.intro hV2 (And.intro hz2 (And.intro hfd (And.intro hmem hS2))))))
    revert hcell hmle hgd
    generalize ((mst r.fit r.left.length r.right.length (r.left.length - (x.1 + 1)) (r.right.length - (x.2 + 1)) : Nat)) = y0
    intro hcell hmle hgd
    have HCE := Lib.hid hcell
    have HGD := Lib.hid hgd
    clear hb5V h10 hV2 hz2 hcu hy0 hcell hgd hfd hS2 hsz2 hszV
    refine wpIn_block ?_
    refine wpIn_seq ?_
    refine few12 (b6 := b6) (p7 := p7) (p10 := V1.heap.size) (rl := w5.heap.size + 1) (a := x.1) (c := x.2) (p := x.1 + 1) (q := x.2 + 1) (x := ((y + 1 : Nat) : Int)) (y := (y0 : Int)) (y1 := 1 + (y0 : Int)) (b := goodP r.fit r.left.length r.right.length (y + 1) x) (P0 := fun v => v = V2.drew)
      (by rw [IntWalk.i64_in _ (by omega)]; omega) (by rw [IntWalk.i64_in _ (by omega)]; omega) (IntWalk.i64_in _ (by omega)) HGD.out.symm (by omega) (by omega) (by omega) (by omega) rfl ?l1 ?l4 ?l8 ?l10 ?hQ
    case l1 => rintro v rfl; exact (cell_of_heap (w := V2.drew) HF.out.2.1).trans rfl
    case l4 => rintro v rfl; exact (cell_of_heap (w := V2.drew) HF.out.2.1).trans rfl
    case l8 => rintro v rfl; exact HCE.out
    case l10 => rintro v rfl; exact cell_at0 HF.out.2.2.1.left
    rintro w' rfl
    obtain ⟨hb5V, h10, hV2, hz2, hfd, hmem, hS2⟩ := HF.out
    have hCC : ∀ {V3 : World}, V2.heap.size ≤ V3.heap.size → ∀ j, j < w5.heap.size + 2 → C j ∧ j < V3.heap.size := fun {V3} h j hj => ⟨hC j hj, by omega⟩
    cases hg : goodP r.fit r.left.length r.right.length (y + 1) x
    · refine wpIn_cond_false rfl ?_
      refine wpIn_skip ?_
      rw [hg] at hfd
      refine ⟨(Same.refl _ _).drew, rfl, fun j => C j ∧ j < V2.drew.heap.size, hCC (Nat.le_refl _), fun j h => h.2, fun j h => .inl h.1, ⟨hb5V.drew, hfd, ?_, fun j hj => hCC (V3 := V2.drew) (Nat.le_refl _) j hj⟩⟩
      obtain ⟨dn, e⟩ := hi.dn
      exact ⟨dn ++ [x], by rw [e]; simp⟩
    · refine wpIn_cond_true rfl ?_
      refine wpIn_seq ?_
      rw [hg] at hfd
      obtain ⟨W2, hW2⟩ : ∃ W2, W2 = V2.drew.drew := ⟨_, rfl⟩
      have hz2' : W2.heap.size = V2.heap.size := by rw [hW2]; rfl
      have hd2 : ∀ j : Nat, W2.heap[j]? = V2.heap[j]? := fun j => by rw [hW2]; rfl
      have hA0 := World.alloc_heap_new W2 (.cells #[.int .i64 x.1, .int .i64 x.2] 42)
      rw [hz2'] at hA0
      have hbA : Below V2.heap.size V2 (W2.alloc (.cells #[.int .i64 x.1, .int .i64 x.2] 42)) := by rw [hW2]; exact (Below.refl _ V2).drew.drew.alloc (Nat.le_refl _) _
      obtain ⟨q1, w9, hrun, hown, hgr, hor⟩ := app_pair (w := W2.alloc (.cells #[.int .i64 x.1, .int .i64 x.2] 42)) (base := w0.heap.size) (ms := V2.heap.size) (l := l) (p := x) (q := q) (by omega) (Nat.le_trans hV2.le.size hbA.size) (own_below hV2.own hbA) hA0
      have hne : ∀ {j : Nat} {c : Array Value} {t : TypeId} {f : Nat × Nat}, V2.heap[j]? = some (.cells c t f) → t ≠ 42 → some j ≠ (Value.slice q.1 l.length q.2).ownBlock := fun {j c t f} hj ht e => by
        obtain ⟨_, cur, h⟩ := own_ty hV2.own e.symm
        rw [hj] at h
        simp at h
        exact ht h.2.1
      have h9 : ∀ {j : Nat} {c : Array Value} {t : TypeId} {f : Nat × Nat}, V2.heap[j]? = some (.cells c t f) → some j ≠ (Value.slice q.1 l.length q.2).ownBlock → w9.heap[j]? = some (.cells c t f) := fun {j c t f} hj ht => (hgr.block _ (Nat.lt_of_lt_of_le (heap_lt hj) hbA.size) ht).trans ((hbA.block _ (heap_lt hj)).trans hj)
      have g10 : w9.heap[V1.heap.size]? = some (.cells #[.int .i64 x.1, .int .i64 x.2] 42 (0, 0)) := h9 h10 (fun e => by have := (HOB.out _ e.symm).2.1; have := hi.le.size; omega)
      have g2 := h9 hV2.row (hne hV2.row (by decide))
      have g8 := h9 hV2.ci (hne hV2.ci (by decide))
      have g9 := h9 hV2.ck (hne hV2.ck (by decide))
      have e28 : b2 ≠ p8 := fun e => by have := hV2.row; rw [e, hV2.ci] at this; simp at this
      have e29 : b2 ≠ p9 := fun e => by have := hV2.row; rw [e, hV2.ck] at this; simp at this
      have e89 := hV2.ne.2.2
      have e10 : V1.heap.size ≠ b2 ∧ V1.heap.size ≠ p8 ∧ V1.heap.size ≠ p9 := by
        have := hi.le.size
        omega
      have S9 : Same (fun j => j = b2 ∨ j = p8 ∨ j = p9 ∨ (Value.slice q.1 l.length q.2).ownBlock = some j) V2 w9 := by
        have h1 : Same (fun j => j = b2 ∨ j = p8 ∨ j = p9 ∨ (Value.slice q.1 l.length q.2).ownBlock = some j) V2 (W2.alloc (.cells #[.int .i64 x.1, .int .i64 x.2] 42)) := by rw [hW2]; exact ((Same.refl _ V2).drew.drew).alloc _
        exact h1.grown hgr (fun k e => .inl (.inr (.inr (.inr e))))
      obtain ⟨wa, hwa⟩ : ∃ wa, wa = w9.setCell ⟨b2, 0, none⟩ (.slice q1.1 (l.length + 1) q1.2) := ⟨_, rfl⟩
      obtain ⟨wb, hwb⟩ : ∃ wb, wb = wa.setCell ⟨p8, 0, none⟩ (.int .i64 ((x.1 + 1 : Nat) : Int)) := ⟨_, rfl⟩
      obtain ⟨wc, hwc⟩ : ∃ wc, wc = wb.setCell ⟨p9, 0, none⟩ (.int .i64 ((x.2 + 1 : Nat) : Int)) := ⟨_, rfl⟩
      have a2 : wa.heap[b2]? = some (.cells #[.slice q1.1 (l.length + 1) q1.2] 31 (0, 0)) := by rw [hwa]; exact heap_setCell_at (k := 0) g2 _
      have aN : ∀ {j : Nat}, j ≠ b2 → wa.heap[j]? = w9.heap[j]? := fun {j} h => by rw [hwa]; exact Below.heap_setCell _ _ _ _ h
      have b8 : wb.heap[p8]? = some (.cells #[.int .i64 ((x.1 + 1 : Nat) : Int)] 3 (0, 0)) := by rw [hwb]; exact heap_setCell_at (k := 0) ((aN (Ne.symm e28)).trans g8) _
      have bN : ∀ {j : Nat}, j ≠ p8 → wb.heap[j]? = wa.heap[j]? := fun {j} h => by rw [hwb]; exact Below.heap_setCell _ _ _ _ h
      have c9 : wc.heap[p9]? = some (.cells #[.int .i64 ((x.2 + 1 : Nat) : Int)] 3 (0, 0)) := by rw [hwc]; exact heap_setCell_at (k := 0) ((bN (Ne.symm e89)).trans ((aN (Ne.symm e29)).trans g9)) _
      have cN : ∀ {j : Nat}, j ≠ p9 → wc.heap[j]? = wb.heap[j]? := fun {j} h => by rw [hwc]; exact Below.heap_setCell _ _ _ _ h
      have SC : Same (fun j => j = b2 ∨ j = p8 ∨ j = p9 ∨ (Value.slice q.1 l.length q.2).ownBlock = some j) V2 wc := by
        rw [hwc, hwb, hwa]
        exact ((S9.setCell (p := ⟨b2, 0, none⟩) (.inl (.inl rfl)) _).setCell (p := ⟨p8, 0, none⟩) (.inl (.inr (.inl rfl))) _).setCell (p := ⟨p9, 0, none⟩) (.inl (.inr (.inr (.inl rfl)))) _
      have S2 : Same (fun j => j = b2 ∨ j = p8 ∨ j = p9) w9 wc := by
        rw [hwc, hwb, hwa]
        exact (((Same.refl _ w9).setCell (p := ⟨b2, 0, none⟩) (.inl (.inl rfl)) _).setCell (p := ⟨p8, 0, none⟩) (.inl (.inr (.inl rfl))) _).setCell (p := ⟨p9, 0, none⟩) (.inl (.inr (.inr rfl))) _
      have hmi : wc.heap[b]? = some (.cells (rowsL r al cl ar cr (fitT r) r.need).toArray 130 (0, 0)) ∧ wc.heap[b6]? = some (.cells (numL (fewU r)).toArray 72 (0, 0)) ∧ wc.heap[p7]? = some (.cells #[.int .i64 ((y + 1 : Nat) : Int)] 3 (0, 0)) := by
        have k1 := h9 hV2.rws (hne hV2.rws (by decide))
        have k2 := h9 hV2.tab (hne hV2.tab (by decide))
        have k3 := h9 hV2.left (hne hV2.left (by decide))
        refine ⟨(S2.block _ (heap_lt k1) (fun e => ?_)).trans k1, (S2.block _ (heap_lt k2) (fun e => ?_)).trans k2, (S2.block _ (heap_lt k3) (fun e => ?_)).trans k3⟩
        · rcases e with e | e | e <;> rw [e] at k1
          · rw [g2] at k1; simp at k1
          · rw [g8] at k1; simp at k1
          · rw [g9] at k1; simp at k1
        · rcases e with e | e | e <;> rw [e] at k2
          · rw [g2] at k2; simp at k2
          · rw [g8] at k2; simp at k2
          · rw [g9] at k2; simp at k2
        · rcases e with e | e | e
          · rw [e, g2] at k3; simp at k3
          · exact hV2.ne.1 e
          · exact hV2.ne.2.1 e
      have hob1 : ∀ j, (Value.slice q1.1 (l.length + 1) q1.2).ownBlock = some j → j ≠ b2 ∧ j ≠ p8 ∧ j ≠ p9 ∧ j ≠ w5.heap.size + 1 := fun j e => by
        have hz9 : (W2.alloc (.cells #[.int .i64 x.1, .int .i64 x.2] 42)).heap.size = V2.heap.size + 1 := by rw [World.size_alloc, hz2']
        rcases hor with h | h
        · rw [h] at e
          refine ⟨fun h' => ?_, fun h' => ?_, fun h' => ?_, ?_⟩
          · rw [h'] at e; exact hne hV2.row (by decide) e.symm
          · rw [h'] at e; exact hne hV2.ci (by decide) e.symm
          · rw [h'] at e; exact hne hV2.ck (by decide) e.symm
          · have := (HOB.out _ e).2.1
            omega
        · rw [h, hz9] at e
          have e' := Option.some.inj e
          have := hb5V.size
          omega
      have hFW : FewW r al cl ar cr w0 b b2 b6 p7 (y + 1) p8 p9 (x.1 + 1) (x.2 + 1) (l ++ [x]) q1 wc := by
        obtain ⟨o1, o2, o3, o4⟩ := hV2.lo
        refine ⟨hV2.le.trans (SC.below hV2.le.size (fun j hj e => ?_)), hmi.1, hmi.2.1, hmi.2.2, (cN e89).trans b8, c9, ?_, ?_, hV2.lo, hV2.ne⟩
        · rcases e with e | e | e | e
          · omega
          · omega
          · omega
          · have := (HOB.out _ e).1; omega
        · rw [List.length_append]
          exact (cN e29).trans ((bN e28).trans a2)
        · rw [List.length_append]
          exact own_same hown S2 (fun j hj e => by
            obtain ⟨f1, f2, f3, _⟩ := hob1 j e
            rcases hj with hj | hj | hj
            · exact f1 hj
            · exact f2 hj
            · exact f3 hj)
      have hst : ∀ w : World, (w = W2 ∨ w = W2.alloc (.cells #[.int .i64 x.1, .int .i64 x.2] 42) ∨ w = w9 ∨ w = wa ∨ w = wb ∨ w = wc) → w.heap[V1.heap.size]? = some (.cells #[.int .i64 x.1, .int .i64 x.2] 42 (0, 0)) := by
        rintro w (rfl | rfl | rfl | rfl | rfl | rfl)
        · rw [hd2]; exact h10
        · exact (hbA.block _ (heap_lt h10)).trans h10
        · exact g10
        · exact (aN e10.1).trans g10
        · exact (bN e10.2.1).trans ((aN e10.1).trans g10)
        · exact (cN e10.2.2).trans ((bN e10.2.1).trans ((aN e10.1).trans g10))
      have HG := Lib.hid (And.intro hrun (And.intro hst (And.intro hFW (And.intro SC (And.intro hob1 (And.intro hV2 (And.intro hbA (And.intro hb5V hfd))))))))
      have HC2 := Lib.hid (And.intro g2 (And.intro ((aN (Ne.symm e28)).trans g8) ((bN (Ne.symm e89)).trans ((aN (Ne.symm e29)).trans g9))))
      refine few13 (b2 := b2) (p8 := p8) (p9 := p9) (p10 := V1.heap.size) (rl := w5.heap.size + 1) (a := x.1) (c := x.2) (p := x.1 + 1) (q := x.2 + 1) (N := V2.heap.size) (n := l.length) (g := q.1) (cw := q.2) (g1 := q1.1) (cw1 := q1.2)
        (P0 := fun v => v = W2) (P1 := fun v => v = W2.alloc (.cells #[.int .i64 x.1, .int .i64 x.2] 42)) (P2 := fun v => v = w9) (P3 := fun v => v = wa) (P4 := fun v => v = wb) (P5 := fun v => v = wc)
        (by rw [IntWalk.i64_in _ (by omega)]; omega) (by rw [IntWalk.i64_in _ (by omega)]; omega) hW2.symm ?m0 ?m1 ?a2 ?r3 ?m5 ?m8 ?s10 ?s11 ?s12 ?hQ2
      case m0 =>
        rintro v (rfl | rfl)
        · exact cell_at0 (by rw [hd2]; exact HG.out.2.2.2.2.2.1.row)
        · exact cell_at0 ((HG.out.2.2.2.2.2.2.1.block _ (heap_lt HG.out.2.2.2.2.2.1.row)).trans HG.out.2.2.2.2.2.1.row)
      case m1 => exact fun v h => ⟨(cell_of_heap (HG.out.2.1 v h)).trans rfl, (cell_of_heap (HG.out.2.1 v h)).trans rfl⟩
      case a2 => rintro v rfl; exact ⟨hz2', rfl⟩
      case r3 => rintro v rfl; exact ⟨w9, HG.out.1, rfl⟩
      case m5 => exact fun v h => (cell_of_heap (HG.out.2.1 v h)).trans rfl
      case m8 => exact fun v h => (cell_of_heap (HG.out.2.1 v h)).trans rfl
      case s10 => rintro v rfl; exact ⟨⟨_, cell_at0 HC2.out.1⟩, frozen_of_heap HC2.out.1, hwa.symm⟩
      case s11 => rintro v rfl; exact ⟨⟨_, cell_at0 HC2.out.2.1⟩, frozen_of_heap HC2.out.2.1, hwb.symm⟩
      case s12 => rintro v rfl; exact ⟨⟨_, cell_at0 HC2.out.2.2⟩, frozen_of_heap HC2.out.2.2, hwc.symm⟩
      rintro w' rfl
      refine wpIn_exit ?_
      obtain ⟨hrun, hst, hFW, SC, hob1, hV2, hbA, hb5V, hfd⟩ := HG.out
      have hbd : ∀ j, (j = b2 ∨ j = p8 ∨ j = p9 ∨ (Value.slice q.1 l.length q.2).ownBlock = some j) → j < V.heap.size := fun j e => by
        rcases e with e | e | e | e
        · omega
        · omega
        · omega
        · exact (HOB.out _ e).2.1
      refine ⟨SC.mono (fun j _ e => ⟨hC j (by have := hbd j e; omega), fun _ => by
        rcases e with e | e | e | e
        · exact .inl e
        · exact .inr (.inl e)
        · exact .inr (.inr (.inl e))
        · exact .inr (.inr (.inr (.inl e)))⟩), SC.block _ (by have := hb5V.size; omega) (fun e => by have := hbd _ e; omega), fun j => C j ∧ j < w'.heap.size, hCC SC.size, fun j h => h.2, fun j h => .inl h.1, ⟨rfl, ⟨x, q1, ?_, hFW, ?_⟩, fun j hj hd => ?_, ?_⟩⟩
      · rw [hi.find, List.find?_cons, hg]
      · intro e
        rw [List.length_append] at e
        exact (hob1 _ e).2.2.2 rfl
      · have h2 := (hb5V.block j hj).trans hd
        refine (SC.block j (by have := hb5V.size; omega) (fun e => ?_)).trans h2
        rcases e with e | e | e | e
        · rw [e, hV2.row] at h2; cases h2
        · rw [e, hV2.ci] at h2; cases h2
        · rw [e, hV2.ck] at h2; cases h2
        · obtain ⟨_, cur, h⟩ := own_ty hV2.own e
          rw [h] at h2; cases h2
      · have := SC.size
        omega
end Go.Proofs.YtbnhngfegnhaiaaDoor
namespace Go.Proofs.YtbnhngfegnhaiaaDoor
open Go.RowKit
set_option linter.unusedVariables false
set_option linter.unusedSimpArgs false
/-- A case: the marks of each row that have been painted. -/
abbrev setV (c : Nat × Nat) : Value := .agg #[.int .u64 c.1, .int .u64 c.2]
theorem counter88 {o n t : Nat} {xs : List Value} {c : Nat × Nat} {w : World} (hn : n ≤ 100000) (ho : w.heap[o]? = some (.cells (List.toArray (.int .i64 n :: xs)) t (0, 0))) :
    Calls Tryd.prog 88 #[.pointer (some ⟨o, 0, none⟩), setV c] w fun e w' => e = .returned (.tuple #[]) ∧ Same (fun j => j = o) w w' ∧ w'.heap[o]? = some (.cells (List.toArray (.int .i64 ((n + 1 : Nat) : Int) :: xs)) t (0, 0)) := by
  have HX : Hid (Below w.heap.size w (w.alloc (.cells #[.int .u64 c.1, .int .u64 c.2] 106))) := alloc_below _ _
  have HO := Lib.hid ((HX.out.block _ (heap_lt ho)).trans ho)
  have HL := Lib.hid (heap_lt ho)
  have hn2 : (n : Int) ≤ 100000 := by omega
  clear ho
  go_enter Tryd.func88, Tryd.ntmps88
  refine wp_seq_hid ?_
  intro K0 HK0
  go_wp2_with fail
  refine HK0.out _ _ ?_
  clear HK0 K0
  revert HX HO
  generalize w.alloc (.cells #[.int .u64 c.1, .int .u64 c.2] 106) = w1
  intro HX HO
  have c0 : w1.cell? ⟨o, 0, none⟩ = some (.int .i64 n) := by rw [cell_of_heap HO.out]; rfl
  have f0 : w1.frozen? ⟨o, 0, none⟩ = false := frozen_of_heap HO.out
  go_wp2_with fail
  go_end0
  have h := heap_setCell_at (k := 0) HO.out (.int .i64 ((n : Int) + 1))
  refine ⟨rfl, ((Same.refl (fun j => j = o) w).trans (Same.of_below _ HX.out)).setCell (p := ⟨o, 0, none⟩) (.inl rfl) _, ?_⟩
  rw [h]
  rfl
/-- The flag of a case: none, left, right. -/
def sideF (c : Nat × Nat) : Nat := if c.1 = 0 then (if c.2 = 0 then 1 else 4) else 2
def sidesF : List (Nat × Nat) → Nat
  | [] => 0
  | c :: l => sideF c ||| sidesF l
theorem sidesF_app (c : Nat × Nat) : ∀ l, sidesF (l ++ [c]) = sidesF l ||| sideF c
  | [] => by simp [sidesF]
  | d :: l => by
    show sideF d ||| sidesF (l ++ [c]) = (sideF d ||| sidesF l) ||| sideF c
    rw [sidesF_app c l, Nat.or_assoc]
theorem sideF_lt (c : Nat × Nat) : sideF c < 8 := by
  unfold sideF
  split
  · split <;> omega
  · omega
theorem sidesF_lt : ∀ l, sidesF l < 8
  | [] => by decide
  | c :: l => Nat.or_lt_two_pow (n := 3) (sideF_lt c) (sidesF_lt l)
theorem or_side (a b : Nat) (ha : a < 8) (hb : b < 8) : bits .or .i64 (a : Int) (b : Int) = ((a ||| b : Nat) : Int) := or_nat a b (by omega) (by omega)
theorem sides136 {o : Nat} {l : List (Nat × Nat)} {c : Nat × Nat} {w : World} (hc : c.1 < 1024 ∧ c.2 < 1024) (ho : w.heap[o]? = some (.cells #[.int .i64 (sidesF l)] 115 (0, 0))) :
    Calls Tryd.prog 136 #[.pointer (some ⟨o, 0, none⟩), setV c] w fun e w' => e = .returned (.tuple #[]) ∧ Same (fun j => j = o) w w' ∧ w'.heap[o]? = some (.cells #[.int .i64 (sidesF (l ++ [c]))] 115 (0, 0)) := by
  have HX : Hid (Below w.heap.size w (w.alloc (.cells #[.int .u64 c.1, .int .u64 c.2] 106)) ∧ (w.alloc (.cells #[.int .u64 c.1, .int .u64 c.2] 106)).heap[w.heap.size]? = some (.cells #[.int .u64 c.1, .int .u64 c.2] 106 (0, 0))) := ⟨alloc_below _ _, World.alloc_heap_new _ _⟩
  have HO := Lib.hid ((HX.out.1.block _ (heap_lt ho)).trans ho)
  have HW : Hid (Same (fun j => j = o) w (w.alloc (.cells #[.int .u64 c.1, .int .u64 c.2] 106))) := Same.of_below _ HX.out.1
  have HS : Hid (bits .or .i64 (sidesF l : Int) (sideF c : Int) = (sidesF (l ++ [c]) : Int)) := by
    rw [sidesF_app]
    exact or_side _ _ (sidesF_lt l) (sideF_lt c)
  clear ho
  go_enter Tryd.func136, Tryd.ntmps136
  refine wp_seq_hid ?_
  intro K0 HK0
  go_wp2_with fail
  refine HK0.out _ _ ?_
  clear HK0 K0
  revert HX HO HW
  generalize w.alloc (.cells #[.int .u64 c.1, .int .u64 c.2] 106) = w1
  generalize w.heap.size = bx
  intro HX HO HW
  have x0 : w1.cell? ⟨bx, 0, none⟩ = some (.int .u64 c.1) := by rw [cell_of_heap HX.out.2]; rfl
  have x1 : w1.cell? ⟨bx, 1, none⟩ = some (.int .u64 c.2) := by rw [cell_of_heap HX.out.2]; rfl
  have c0 : w1.cell? ⟨o, 0, none⟩ = some (.int .i64 (sidesF l)) := by rw [cell_of_heap HO.out]; rfl
  have f0 : w1.frozen? ⟨o, 0, none⟩ = false := frozen_of_heap HO.out
  have h3 : (c.1 ≠ 0 ∧ sideF c = 2) ∨ (c.1 = 0 ∧ c.2 ≠ 0 ∧ sideF c = 4) ∨ (c.1 = 0 ∧ c.2 = 0 ∧ sideF c = 1) := by
    unfold sideF
    by_cases h1 : c.1 = 0
    · by_cases h2 : c.2 = 0
      · exact .inr (.inr ⟨h1, h2, by rw [if_pos h1, if_pos h2]⟩)
      · exact .inr (.inl ⟨h1, h2, by rw [if_pos h1, if_neg h2]⟩)
    · exact .inl ⟨h1, by rw [if_neg h1]⟩
  have fin : ∀ z : Int, (sideF c : Int) = z → Same (fun j => j = o) w (w1.setCell ⟨o, 0, none⟩ (.int .i64 (bits .or .i64 (sidesF l : Int) z))) ∧ (w1.setCell ⟨o, 0, none⟩ (.int .i64 (bits .or .i64 (sidesF l : Int) z))).heap[o]? = some (.cells #[.int .i64 (sidesF (l ++ [c]))] 115 (0, 0)) := fun z hz => by
    subst hz
    rw [HS.out]
    have h := heap_setCell_at (k := 0) HO.out (.int .i64 (sidesF (l ++ [c]) : Int))
    refine ⟨HW.out.setCell (p := ⟨o, 0, none⟩) (.inl rfl) _, ?_⟩
    rw [h]
    rfl
  have FIN := Lib.hid fin
  clear fin
  rcases h3 with ⟨h1, h2⟩ | ⟨h1, h2, h4⟩ | ⟨h1, h2, h4⟩
  · have h1' : ¬ (c.1 : Int) = 0 := by omega
    have hb : ((c.1 : Int) != 0) = true := by simpa using h1
    go_wp2_with fail
    go_end0
    exact ⟨rfl, FIN.out 2 (by rw [h2]; rfl)⟩
  · have hb : ((c.1 : Int) != 0) = false := by simpa using h1
    have hb2 : ((c.2 : Int) != 0) = true := by simpa using h2
    have h1' : (c.1 : Int) = 0 := by omega
    have h2' : ¬ (c.2 : Int) = 0 := by omega
    go_wp2_with fail
    go_end0
    exact ⟨rfl, FIN.out 4 (by rw [h4]; rfl)⟩
  · have hb : ((c.1 : Int) != 0) = false := by simpa using h1
    have hb2 : ((c.2 : Int) != 0) = false := by simpa using h2
    have h1' : (c.1 : Int) = 0 := by omega
    have h2' : (c.2 : Int) = 0 := by omega
    go_wp2_with fail
    go_end0
    exact ⟨rfl, FIN.out 1 (by rw [h4]; rfl)⟩
end Go.Proofs.YtbnhngfegnhaiaaDoor
namespace Go.Proofs.YtbnhngfegnhaiaaDoor
open Go.RowKit
set_option linter.unusedVariables false
set_option linter.unusedSimpArgs false
theorem res_c26 {fn : Func} {u : Tmp} (h : fn.results = #[.cell u 26]) (tmps : Array Value) {w : World} {b : Nat} {x0 x1 x2 x3 x4 : Value} (hp : tmps.getD u undef = .pointer (some ⟨b, 0, none⟩)) (hq : w.heap[b]? = some (.cells #[x0, x1, x2, x3, x4] 26 (0, 0))) :
    (results fn tmps).run Tryd.prog w = .ok (.agg #[x0, x1, x2, x3, x4]) w := by
  have hp' : tmps[u]?.getD undef = .pointer (some ⟨b, 0, none⟩) := by simpa using hp
  have h0 : w.cell? ⟨b, 0, none⟩ = some x0 := by rw [cell_of_heap hq]; rfl
  have h1 : w.cell? ⟨b, 1, none⟩ = some x1 := by rw [cell_of_heap hq]; rfl
  have h2 : w.cell? ⟨b, 2, none⟩ = some x2 := by rw [cell_of_heap hq]; rfl
  have h3 : w.cell? ⟨b, 3, none⟩ = some x3 := by rw [cell_of_heap hq]; rfl
  have h4 : w.cell? ⟨b, 4, none⟩ = some x4 := by rw [cell_of_heap hq]; rfl
  simp [results, h, hp', h0, h1, h2, h3, h4, go_sem]
theorem put5 {w : World} {b t : Nat} {x0 x1 x2 x3 x4 : Value} (y0 y1 y2 y3 y4 : Value) (h : w.heap[b]? = some (.cells #[x0, x1, x2, x3, x4] t (0, 0))) :
    (((((w.setCell ⟨b, 0, none⟩ y0).setCell ⟨b, 1, none⟩ y1).setCell ⟨b, 2, none⟩ y2).setCell ⟨b, 3, none⟩ y3).setCell ⟨b, 4, none⟩ y4).heap[b]? = some (.cells #[y0, y1, y2, y3, y4] t (0, 0)) ∧
    Same (fun j => j = b) w (((((w.setCell ⟨b, 0, none⟩ y0).setCell ⟨b, 1, none⟩ y1).setCell ⟨b, 2, none⟩ y2).setCell ⟨b, 3, none⟩ y3).setCell ⟨b, 4, none⟩ y4) ∧
    (∀ a l, IsMks w a l → (∀ ad, a = some ad → b < ad.block) → IsMks (((((w.setCell ⟨b, 0, none⟩ y0).setCell ⟨b, 1, none⟩ y1).setCell ⟨b, 2, none⟩ y2).setCell ⟨b, 3, none⟩ y3).setCell ⟨b, 4, none⟩ y4) a l) := by
  refine ⟨(heap_setCell_at (k := 4) (heap_setCell_at (k := 3) (heap_setCell_at (k := 2) (heap_setCell_at (k := 1) (heap_setCell_at (k := 0) h y0) y1) y2) y3) y4).trans rfl, ?_, fun a l hm hn => ((((hm.setCell hn).setCell hn).setCell hn).setCell hn).setCell hn⟩
  exact (((((Same.refl (fun j => j = b) w).setCell (p := ⟨b, 0, none⟩) (.inl rfl) _).setCell (p := ⟨b, 1, none⟩) (.inl rfl) _).setCell (p := ⟨b, 2, none⟩) (.inl rfl) _).setCell (p := ⟨b, 3, none⟩) (.inl rfl) _).setCell (p := ⟨b, 4, none⟩) (.inl rfl) _
/-- Rows without marks. -/
def Rws.wo (r : Rws) (c : Nat × Nat) : Rws := { r with left := keptL r.left c.1, right := keptL r.right c.2 }
structure wit22F (bx : Nat) (al : Option Addr) (n : Nat) (cl : Nat) (ar : Option Addr) (m : Nat) (cr : Nat) (n1 : Nat) (n2 : Nat) (A : Nat) (B : Nat) (S0 : World → Prop) (S1 : Option Addr × Nat → World → Prop) (S2 : Option Addr × Nat → Option Addr × Nat → World → Prop) (S3 : Option Addr × Nat → Option Addr × Nat → World → Prop) (S4 : Option Addr × Nat → Option Addr × Nat → World → Prop) (d : Nat → Bool) (x7 x8 x9 x10 x11 x12 x13 x14 x15 x16 : Value) (g1 : Option Addr × Nat) (g2 : Option Addr × Nat) (w : World) : Prop where
  q1 : d 1 = true → d 0 = true
  q3 : d 3 = true → d 1 = true ∧ d 2 = true
  q5 : d 5 = true → d 4 = true
  q7 : d 7 = true → d 3 = true ∧ d 5 = true ∧ d 6 = true
  q8 : d 8 = true → d 0 = true ∧ d 1 = true ∧ d 2 = true ∧ d 3 = true ∧ d 4 = true ∧ d 5 = true
  q9 : d 9 = true → d 0 = true ∧ d 1 = true ∧ d 2 = true ∧ d 3 = true ∧ d 4 = true ∧ d 5 = true ∧ d 7 = true ∧ d 8 = true
  q10 : d 10 = true → d 0 = true ∧ d 1 = true ∧ d 2 = true ∧ d 3 = true ∧ d 4 = true ∧ d 5 = true ∧ d 6 = true ∧ d 7 = true ∧ d 8 = true ∧ d 9 = true
  q11 : d 11 = true → d 0 = true ∧ d 1 = true ∧ d 2 = true ∧ d 3 = true ∧ d 4 = true ∧ d 5 = true ∧ d 6 = true ∧ d 7 = true ∧ d 8 = true ∧ d 9 = true ∧ d 10 = true
  f0 : d 0 = true → x7 = .pointer (some ⟨bx, 0, none⟩)
  f1 : d 1 = true → x8 = .slice al n cl
  f2 : d 2 = true → x9 = .int .i64 A
  f3 : d 3 = true → x10 = .slice g1.1 n1 g1.2
  f4 : d 4 = true → x11 = .pointer (some ⟨bx, 1, none⟩)
  f5 : d 5 = true → x12 = .slice ar m cr
  f6 : d 6 = true → x13 = .int .i64 B
  f7 : d 7 = true → x14 = .slice g2.1 n2 g2.2
  f8 : d 8 = true → x15 = .pointer (some ⟨bx, 0, none⟩)
  f10 : d 10 = true → x16 = .pointer (some ⟨bx, 1, none⟩)
  st0 : d 3 = false → S0 w
  st1 : d 3 = true → d 7 = false → S1 g1 w
  st2 : d 7 = true → d 9 = false → S2 g1 g2 w
  st3 : d 9 = true → d 11 = false → S3 g1 g2 w
  st4 : d 11 = true → S4 g1 g2 w
noncomputable def wit22C : Code := (Tryd.f22.body.bind (regionAt 1)).getD .skip
set_option maxRecDepth 100000 in
set_option maxHeartbeats 4000000 in
theorem wit22 {bx : Nat} {al : Option Addr} {n : Nat} {cl : Nat} {ar : Option Addr} {m : Nat} {cr : Nat} {n1 : Nat} {n2 : Nat} {A : Nat} {B : Nat} {S0 : World → Prop} {S1 : Option Addr × Nat → World → Prop} {S2 : Option Addr × Nat → Option Addr × Nat → World → Prop} {S3 : Option Addr × Nat → Option Addr × Nat → World → Prop} {S4 : Option Addr × Nat → Option Addr × Nat → World → Prop} {Q : Exit → Act → World → Prop} {W1 : World} (h0 : S0 W1.drew)
    (kl1 : Hid (∀ (w : World), (S0 w) → w.cell? ⟨bx, 0, none⟩ = some (.slice al n cl)))
    (kc3 : Hid (∀ (w : World), S0 w → Calls Tryd.prog 63 #[.slice al n cl, .int .i64 A] w fun e w' => ∃ g1 : Option Addr × Nat, e = .returned (.slice g1.1 n1 g1.2) ∧ S1 g1 w'))
    (kl5 : Hid (∀ (g1 : Option Addr × Nat) (w : World), (S0 w ∨ S1 g1 w) → w.cell? ⟨bx, 1, none⟩ = some (.slice ar m cr)))
    (kc7 : Hid (∀ (g1 : Option Addr × Nat) (w : World), S1 g1 w → Calls Tryd.prog 63 #[.slice ar m cr, .int .i64 B] w fun e w' => ∃ g2 : Option Addr × Nat, e = .returned (.slice g2.1 n2 g2.2) ∧ S2 g1 g2 w'))
    (kc9 : Hid (∀ (g1 : Option Addr × Nat) (g2 : Option Addr × Nat) (w : World), S2 g1 g2 w → (∃ u, w.cell? ⟨bx, 0, none⟩ = some u) ∧ w.frozen? ⟨bx, 0, none⟩ = false ∧ S3 g1 g2 (w.setCell ⟨bx, 0, none⟩ (.slice g1.1 n1 g1.2))))
    (kc11 : Hid (∀ (g1 : Option Addr × Nat) (g2 : Option Addr × Nat) (w : World), S3 g1 g2 w → (∃ u, w.cell? ⟨bx, 1, none⟩ = some u) ∧ w.frozen? ⟨bx, 1, none⟩ = false ∧ S4 g1 g2 (w.setCell ⟨bx, 1, none⟩ (.slice g2.1 n2 g2.2))))
    {s0 s4 s5 s6 s7 s8 s9 s10 s11 s12 s13 s14 s15 s16 s17 : Value} {dd : List Deferred}
    (hQ : ∀ (g1 : Option Addr × Nat) (g2 : Option Addr × Nat) (w' : World), S4 g1 g2 w' → Q .normal { tmps := #[s0, .int .i64 A, .int .i64 B, .pointer (some ⟨bx, 0, none⟩), s4, s5, s6, .pointer (some ⟨bx, 0, none⟩), .slice al n cl, .int .i64 A, .slice g1.1 n1 g1.2, .pointer (some ⟨bx, 1, none⟩), .slice ar m cr, .int .i64 B, .slice g2.1 n2 g2.2, .pointer (some ⟨bx, 0, none⟩), .pointer (some ⟨bx, 1, none⟩), s17], defers := dd } w') :
    Code.wpIn (wideAt none) 0 Tryd.prog wit22C Q { tmps := #[s0, .int .i64 A, .int .i64 B, .pointer (some ⟨bx, 0, none⟩), s4, s5, s6, s7, s8, s9, s10, s11, s12, s13, s14, s15, s16, s17], defers := dd } W1 := by
  have HQ := Lib.hid hQ
  clear hQ
  conv => arg 4; whnf
  refine wpIn_region_invG mixed (by kernel_rfl) (fun d_ a_ w' => ∃ (x7 : Value) (x8 : Value) (x9 : Value) (x10 : Value) (x11 : Value) (x12 : Value) (x13 : Value) (x14 : Value) (x15 : Value) (x16 : Value) (g1 : Option Addr × Nat) (g2 : Option Addr × Nat), a_ = { tmps := #[s0, .int .i64 A, .int .i64 B, .pointer (some ⟨bx, 0, none⟩), s4, s5, s6, x7, x8, x9, x10, x11, x12, x13, x14, x15, x16, s17], defers := dd } ∧ wit22F bx al n cl ar m cr n1 n2 A B S0 S1 S2 S3 S4 d_ x7 x8 x9 x10 x11 x12 x13 x14 x15 x16 g1 g2 w') ?_ ?_ ?_
  · refine ⟨s7, s8, s9, s10, s11, s12, s13, s14, s15, s16, default, default, rfl, ?_⟩
    constructor <;> first | rfl | (intro _; rfl) | (intro h; cases h; done) | (intro _; exact h0) | exact h0
  · refine ⟨?_, ?_, ?_, ?_, ?_, ?_, ?_, ?_, ?_, ?_, ?_, ?_, trivial⟩
    all_goals
      rintro d_ a_ w1 K hd_ hdep ⟨x7, x8, x9, x10, x11, x12, x13, x14, x15, x16, g1, g2, rfl, F⟩ HK
      simp [Region.binds] at hdep
    · have HF : Hid (wit22F bx al n cl ar m cr n1 n2 A B S0 S1 S2 S3 S4 (upd d_ 0) (.pointer (some ⟨bx, 0, none⟩)) x8 x9 x10 x11 x12 x13 x14 x15 x16 g1 g2 w1) := ⟨fun h => rfl, F.q3, F.q5, F.q7, fun h => ⟨rfl, (F.q8 h).2.1, (F.q8 h).2.2.1, (F.q8 h).2.2.2.1, (F.q8 h).2.2.2.2.1, (F.q8 h).2.2.2.2.2⟩, fun h => ⟨rfl, (F.q9 h).2.1, (F.q9 h).2.2.1, (F.q9 h).2.2.2.1, (F.q9 h).2.2.2.2.1, (F.q9 h).2.2.2.2.2.1, (F.q9 h).2.2.2.2.2.2.1, (F.q9 h).2.2.2.2.2.2.2⟩, fun h => ⟨rfl, (F.q10 h).2.1, (F.q10 h).2.2.1, (F.q10 h).2.2.2.1, (F.q10 h).2.2.2.2.1, (F.q10 h).2.2.2.2.2.1, (F.q10 h).2.2.2.2.2.2.1, (F.q10 h).2.2.2.2.2.2.2.1, (F.q10 h).2.2.2.2.2.2.2.2.1, (F.q10 h).2.2.2.2.2.2.2.2.2⟩, fun h => ⟨rfl, (F.q11 h).2.1, (F.q11 h).2.2.1, (F.q11 h).2.2.2.1, (F.q11 h).2.2.2.2.1, (F.q11 h).2.2.2.2.2.1, (F.q11 h).2.2.2.2.2.2.1, (F.q11 h).2.2.2.2.2.2.2.1, (F.q11 h).2.2.2.2.2.2.2.2.1, (F.q11 h).2.2.2.2.2.2.2.2.2.1, (F.q11 h).2.2.2.2.2.2.2.2.2.2⟩, fun _ => rfl, F.f1, F.f2, F.f3, F.f4, F.f5, F.f6, F.f7, F.f8, F.f10, F.st0, F.st1, F.st2, F.st3, F.st4⟩
      clear F
      go_simp
      exact HK.out _ _ ⟨_, _, _, _, _, _, _, _, _, _, _, _, rfl, HF.out⟩
    · have hst : S0 w1 := by
        have n_ : d_ 3 = false := by
          cases e_ : d_ 3 with
          | false => rfl
          | true => have h2 := (F.q3 e_).1; rw [show d_ 1 = false from hd_] at h2; cases h2
        exact (F.st0 n_)
      have kk := kl1.out w1 hst
      clear hst
      obtain rfl := F.f0 (by simp [hdep])
      have HF : Hid (wit22F bx al n cl ar m cr n1 n2 A B S0 S1 S2 S3 S4 (upd d_ 1) (.pointer (some ⟨bx, 0, none⟩)) (.slice al n cl) x9 x10 x11 x12 x13 x14 x15 x16 g1 g2 w1) := ⟨fun _ => (show _ from (by simp [hdep] : d_ 0 = true)), fun h => ⟨rfl, (F.q3 h).2⟩, F.q5, F.q7, fun h => ⟨(F.q8 h).1, rfl, (F.q8 h).2.2.1, (F.q8 h).2.2.2.1, (F.q8 h).2.2.2.2.1, (F.q8 h).2.2.2.2.2⟩, fun h => ⟨(F.q9 h).1, rfl, (F.q9 h).2.2.1, (F.q9 h).2.2.2.1, (F.q9 h).2.2.2.2.1, (F.q9 h).2.2.2.2.2.1, (F.q9 h).2.2.2.2.2.2.1, (F.q9 h).2.2.2.2.2.2.2⟩, fun h => ⟨(F.q10 h).1, rfl, (F.q10 h).2.2.1, (F.q10 h).2.2.2.1, (F.q10 h).2.2.2.2.1, (F.q10 h).2.2.2.2.2.1, (F.q10 h).2.2.2.2.2.2.1, (F.q10 h).2.2.2.2.2.2.2.1, (F.q10 h).2.2.2.2.2.2.2.2.1, (F.q10 h).2.2.2.2.2.2.2.2.2⟩, fun h => ⟨(F.q11 h).1, rfl, (F.q11 h).2.2.1, (F.q11 h).2.2.2.1, (F.q11 h).2.2.2.2.1, (F.q11 h).2.2.2.2.2.1, (F.q11 h).2.2.2.2.2.2.1, (F.q11 h).2.2.2.2.2.2.2.1, (F.q11 h).2.2.2.2.2.2.2.2.1, (F.q11 h).2.2.2.2.2.2.2.2.2.1, (F.q11 h).2.2.2.2.2.2.2.2.2.2⟩, F.f0, fun _ => rfl, F.f2, F.f3, F.f4, F.f5, F.f6, F.f7, F.f8, F.f10, F.st0, F.st1, F.st2, F.st3, F.st4⟩
      clear F
      go_simp
      exact HK.out _ _ ⟨_, _, _, _, _, _, _, _, _, _, _, _, rfl, HF.out⟩
    · have HF : Hid (wit22F bx al n cl ar m cr n1 n2 A B S0 S1 S2 S3 S4 (upd d_ 2) x7 x8 (.int .i64 A) x10 x11 x12 x13 x14 x15 x16 g1 g2 w1) := ⟨F.q1, fun h => ⟨(F.q3 h).1, rfl⟩, F.q5, F.q7, fun h => ⟨(F.q8 h).1, (F.q8 h).2.1, rfl, (F.q8 h).2.2.2.1, (F.q8 h).2.2.2.2.1, (F.q8 h).2.2.2.2.2⟩, fun h => ⟨(F.q9 h).1, (F.q9 h).2.1, rfl, (F.q9 h).2.2.2.1, (F.q9 h).2.2.2.2.1, (F.q9 h).2.2.2.2.2.1, (F.q9 h).2.2.2.2.2.2.1, (F.q9 h).2.2.2.2.2.2.2⟩, fun h => ⟨(F.q10 h).1, (F.q10 h).2.1, rfl, (F.q10 h).2.2.2.1, (F.q10 h).2.2.2.2.1, (F.q10 h).2.2.2.2.2.1, (F.q10 h).2.2.2.2.2.2.1, (F.q10 h).2.2.2.2.2.2.2.1, (F.q10 h).2.2.2.2.2.2.2.2.1, (F.q10 h).2.2.2.2.2.2.2.2.2⟩, fun h => ⟨(F.q11 h).1, (F.q11 h).2.1, rfl, (F.q11 h).2.2.2.1, (F.q11 h).2.2.2.2.1, (F.q11 h).2.2.2.2.2.1, (F.q11 h).2.2.2.2.2.2.1, (F.q11 h).2.2.2.2.2.2.2.1, (F.q11 h).2.2.2.2.2.2.2.2.1, (F.q11 h).2.2.2.2.2.2.2.2.2.1, (F.q11 h).2.2.2.2.2.2.2.2.2.2⟩, F.f0, F.f1, fun _ => rfl, F.f3, F.f4, F.f5, F.f6, F.f7, F.f8, F.f10, F.st0, F.st1, F.st2, F.st3, F.st4⟩
      clear F
      go_simp
      exact HK.out _ _ ⟨_, _, _, _, _, _, _, _, _, _, _, _, rfl, HF.out⟩
    · have hS := F.st0  hd_
      obtain rfl := F.f1 (by simp [hdep])
      obtain rfl := F.f2 (by simp [hdep])
      have hc := kc3.out w1 hS
      have HF := Lib.hid F
      clear F
      go_simp
      refine ⟨trivial, rfl, wideAt_calls (hc.mono ?_)⟩
      rintro e w5 ⟨v_, rfl, hres⟩
      exact HK.out _ _ ⟨_, _, _, _, _, _, _, _, _, _, v_, g2, rfl, ⟨HF.out.q1, fun _ => ⟨(show _ from (by simp [hdep] : d_ 1 = true)), (show _ from (by simp [hdep] : d_ 2 = true))⟩, HF.out.q5, fun h => ⟨rfl, (HF.out.q7 h).2.1, (HF.out.q7 h).2.2⟩, fun h => ⟨(HF.out.q8 h).1, (HF.out.q8 h).2.1, (HF.out.q8 h).2.2.1, rfl, (HF.out.q8 h).2.2.2.2.1, (HF.out.q8 h).2.2.2.2.2⟩, fun h => ⟨(HF.out.q9 h).1, (HF.out.q9 h).2.1, (HF.out.q9 h).2.2.1, rfl, (HF.out.q9 h).2.2.2.2.1, (HF.out.q9 h).2.2.2.2.2.1, (HF.out.q9 h).2.2.2.2.2.2.1, (HF.out.q9 h).2.2.2.2.2.2.2⟩, fun h => ⟨(HF.out.q10 h).1, (HF.out.q10 h).2.1, (HF.out.q10 h).2.2.1, rfl, (HF.out.q10 h).2.2.2.2.1, (HF.out.q10 h).2.2.2.2.2.1, (HF.out.q10 h).2.2.2.2.2.2.1, (HF.out.q10 h).2.2.2.2.2.2.2.1, (HF.out.q10 h).2.2.2.2.2.2.2.2.1, (HF.out.q10 h).2.2.2.2.2.2.2.2.2⟩, fun h => ⟨(HF.out.q11 h).1, (HF.out.q11 h).2.1, (HF.out.q11 h).2.2.1, rfl, (HF.out.q11 h).2.2.2.2.1, (HF.out.q11 h).2.2.2.2.2.1, (HF.out.q11 h).2.2.2.2.2.2.1, (HF.out.q11 h).2.2.2.2.2.2.2.1, (HF.out.q11 h).2.2.2.2.2.2.2.2.1, (HF.out.q11 h).2.2.2.2.2.2.2.2.2.1, (HF.out.q11 h).2.2.2.2.2.2.2.2.2.2⟩, HF.out.f0, HF.out.f1, HF.out.f2, fun _ => rfl, HF.out.f4, HF.out.f5, HF.out.f6, HF.out.f7, HF.out.f8, HF.out.f10, fun h => (by simp [upd] at h), fun _ _ => hres, fun h _ => (by have h2 : d_ 3 = true := (HF.out.q7 h).1; rw [show d_ 3 = false from hd_] at h2; cases h2), fun h _ => (by have h2 : d_ 3 = true := (HF.out.q9 h).2.2.2.1; rw [show d_ 3 = false from hd_] at h2; cases h2), fun h => (by have h2 : d_ 3 = true := (HF.out.q11 h).2.2.2.1; rw [show d_ 3 = false from hd_] at h2; cases h2)⟩⟩
    · have HF : Hid (wit22F bx al n cl ar m cr n1 n2 A B S0 S1 S2 S3 S4 (upd d_ 4) x7 x8 x9 x10 (.pointer (some ⟨bx, 1, none⟩)) x12 x13 x14 x15 x16 g1 g2 w1) := ⟨F.q1, F.q3, fun h => rfl, F.q7, fun h => ⟨(F.q8 h).1, (F.q8 h).2.1, (F.q8 h).2.2.1, (F.q8 h).2.2.2.1, rfl, (F.q8 h).2.2.2.2.2⟩, fun h => ⟨(F.q9 h).1, (F.q9 h).2.1, (F.q9 h).2.2.1, (F.q9 h).2.2.2.1, rfl, (F.q9 h).2.2.2.2.2.1, (F.q9 h).2.2.2.2.2.2.1, (F.q9 h).2.2.2.2.2.2.2⟩, fun h => ⟨(F.q10 h).1, (F.q10 h).2.1, (F.q10 h).2.2.1, (F.q10 h).2.2.2.1, rfl, (F.q10 h).2.2.2.2.2.1, (F.q10 h).2.2.2.2.2.2.1, (F.q10 h).2.2.2.2.2.2.2.1, (F.q10 h).2.2.2.2.2.2.2.2.1, (F.q10 h).2.2.2.2.2.2.2.2.2⟩, fun h => ⟨(F.q11 h).1, (F.q11 h).2.1, (F.q11 h).2.2.1, (F.q11 h).2.2.2.1, rfl, (F.q11 h).2.2.2.2.2.1, (F.q11 h).2.2.2.2.2.2.1, (F.q11 h).2.2.2.2.2.2.2.1, (F.q11 h).2.2.2.2.2.2.2.2.1, (F.q11 h).2.2.2.2.2.2.2.2.2.1, (F.q11 h).2.2.2.2.2.2.2.2.2.2⟩, F.f0, F.f1, F.f2, F.f3, fun _ => rfl, F.f5, F.f6, F.f7, F.f8, F.f10, F.st0, F.st1, F.st2, F.st3, F.st4⟩
      clear F
      go_simp
      exact HK.out _ _ ⟨_, _, _, _, _, _, _, _, _, _, _, _, rfl, HF.out⟩
    · have hst : S0 w1 ∨ S1 g1 w1 := by
        cases e1 : d_ 3 with
        | false => exact .inl ((F.st0 e1))
        | true =>
          have n_ : d_ 7 = false := by
            cases e_ : d_ 7 with
            | false => rfl
            | true => have h2 := (F.q7 e_).2.1; rw [show d_ 5 = false from hd_] at h2; cases h2
          exact .inr ((F.st1 e1 n_))
      have kk := kl5.out g1 w1 hst
      clear hst
      obtain rfl := F.f4 (by simp [hdep])
      have HF : Hid (wit22F bx al n cl ar m cr n1 n2 A B S0 S1 S2 S3 S4 (upd d_ 5) x7 x8 x9 x10 (.pointer (some ⟨bx, 1, none⟩)) (.slice ar m cr) x13 x14 x15 x16 g1 g2 w1) := ⟨F.q1, F.q3, fun _ => (show _ from (by simp [hdep] : d_ 4 = true)), fun h => ⟨(F.q7 h).1, rfl, (F.q7 h).2.2⟩, fun h => ⟨(F.q8 h).1, (F.q8 h).2.1, (F.q8 h).2.2.1, (F.q8 h).2.2.2.1, (F.q8 h).2.2.2.2.1, rfl⟩, fun h => ⟨(F.q9 h).1, (F.q9 h).2.1, (F.q9 h).2.2.1, (F.q9 h).2.2.2.1, (F.q9 h).2.2.2.2.1, rfl, (F.q9 h).2.2.2.2.2.2.1, (F.q9 h).2.2.2.2.2.2.2⟩, fun h => ⟨(F.q10 h).1, (F.q10 h).2.1, (F.q10 h).2.2.1, (F.q10 h).2.2.2.1, (F.q10 h).2.2.2.2.1, rfl, (F.q10 h).2.2.2.2.2.2.1, (F.q10 h).2.2.2.2.2.2.2.1, (F.q10 h).2.2.2.2.2.2.2.2.1, (F.q10 h).2.2.2.2.2.2.2.2.2⟩, fun h => ⟨(F.q11 h).1, (F.q11 h).2.1, (F.q11 h).2.2.1, (F.q11 h).2.2.2.1, (F.q11 h).2.2.2.2.1, rfl, (F.q11 h).2.2.2.2.2.2.1, (F.q11 h).2.2.2.2.2.2.2.1, (F.q11 h).2.2.2.2.2.2.2.2.1, (F.q11 h).2.2.2.2.2.2.2.2.2.1, (F.q11 h).2.2.2.2.2.2.2.2.2.2⟩, F.f0, F.f1, F.f2, F.f3, F.f4, fun _ => rfl, F.f6, F.f7, F.f8, F.f10, F.st0, F.st1, F.st2, F.st3, F.st4⟩
      clear F
      go_simp
      exact HK.out _ _ ⟨_, _, _, _, _, _, _, _, _, _, _, _, rfl, HF.out⟩
    · have HF : Hid (wit22F bx al n cl ar m cr n1 n2 A B S0 S1 S2 S3 S4 (upd d_ 6) x7 x8 x9 x10 x11 x12 (.int .i64 B) x14 x15 x16 g1 g2 w1) := ⟨F.q1, F.q3, F.q5, fun h => ⟨(F.q7 h).1, (F.q7 h).2.1, rfl⟩, F.q8, F.q9, fun h => ⟨(F.q10 h).1, (F.q10 h).2.1, (F.q10 h).2.2.1, (F.q10 h).2.2.2.1, (F.q10 h).2.2.2.2.1, (F.q10 h).2.2.2.2.2.1, rfl, (F.q10 h).2.2.2.2.2.2.2.1, (F.q10 h).2.2.2.2.2.2.2.2.1, (F.q10 h).2.2.2.2.2.2.2.2.2⟩, fun h => ⟨(F.q11 h).1, (F.q11 h).2.1, (F.q11 h).2.2.1, (F.q11 h).2.2.2.1, (F.q11 h).2.2.2.2.1, (F.q11 h).2.2.2.2.2.1, rfl, (F.q11 h).2.2.2.2.2.2.2.1, (F.q11 h).2.2.2.2.2.2.2.2.1, (F.q11 h).2.2.2.2.2.2.2.2.2.1, (F.q11 h).2.2.2.2.2.2.2.2.2.2⟩, F.f0, F.f1, F.f2, F.f3, F.f4, F.f5, fun _ => rfl, F.f7, F.f8, F.f10, F.st0, F.st1, F.st2, F.st3, F.st4⟩
      clear F
      go_simp
      exact HK.out _ _ ⟨_, _, _, _, _, _, _, _, _, _, _, _, rfl, HF.out⟩
    · have hS := F.st1 (by simp [hdep] : d_ 3 = true) hd_
      obtain rfl := F.f5 (by simp [hdep])
      obtain rfl := F.f6 (by simp [hdep])
      have hc := kc7.out g1 w1 hS
      have HF := Lib.hid F
      clear F
      go_simp
      refine ⟨trivial, rfl, wideAt_calls (hc.mono ?_)⟩
      rintro e w5 ⟨v_, rfl, hres⟩
      exact HK.out _ _ ⟨_, _, _, _, _, _, _, _, _, _, g1, v_, rfl, ⟨HF.out.q1, HF.out.q3, HF.out.q5, fun _ => ⟨(show _ from (by simp [hdep] : d_ 3 = true)), (show _ from (by simp [hdep] : d_ 5 = true)), (show _ from (by simp [hdep] : d_ 6 = true))⟩, HF.out.q8, fun h => ⟨(HF.out.q9 h).1, (HF.out.q9 h).2.1, (HF.out.q9 h).2.2.1, (HF.out.q9 h).2.2.2.1, (HF.out.q9 h).2.2.2.2.1, (HF.out.q9 h).2.2.2.2.2.1, rfl, (HF.out.q9 h).2.2.2.2.2.2.2⟩, fun h => ⟨(HF.out.q10 h).1, (HF.out.q10 h).2.1, (HF.out.q10 h).2.2.1, (HF.out.q10 h).2.2.2.1, (HF.out.q10 h).2.2.2.2.1, (HF.out.q10 h).2.2.2.2.2.1, (HF.out.q10 h).2.2.2.2.2.2.1, rfl, (HF.out.q10 h).2.2.2.2.2.2.2.2.1, (HF.out.q10 h).2.2.2.2.2.2.2.2.2⟩, fun h => ⟨(HF.out.q11 h).1, (HF.out.q11 h).2.1, (HF.out.q11 h).2.2.1, (HF.out.q11 h).2.2.2.1, (HF.out.q11 h).2.2.2.2.1, (HF.out.q11 h).2.2.2.2.2.1, (HF.out.q11 h).2.2.2.2.2.2.1, rfl, (HF.out.q11 h).2.2.2.2.2.2.2.2.1, (HF.out.q11 h).2.2.2.2.2.2.2.2.2.1, (HF.out.q11 h).2.2.2.2.2.2.2.2.2.2⟩, HF.out.f0, HF.out.f1, HF.out.f2, HF.out.f3, HF.out.f4, HF.out.f5, HF.out.f6, fun _ => rfl, HF.out.f8, HF.out.f10, fun h => (by have h2 : d_ 3 = false := h; rw [(by simp [hdep] : d_ 3 = true)] at h2; cases h2), fun _ h => (by simp [upd] at h), fun _ _ => hres, fun h _ => (by have h2 : d_ 7 = true := (HF.out.q9 h).2.2.2.2.2.2.1; rw [show d_ 7 = false from hd_] at h2; cases h2), fun h => (by have h2 : d_ 7 = true := (HF.out.q11 h).2.2.2.2.2.2.2.1; rw [show d_ 7 = false from hd_] at h2; cases h2)⟩⟩
    · have HF : Hid (wit22F bx al n cl ar m cr n1 n2 A B S0 S1 S2 S3 S4 (upd d_ 8) x7 x8 x9 x10 x11 x12 x13 x14 (.pointer (some ⟨bx, 0, none⟩)) x16 g1 g2 w1) := ⟨F.q1, F.q3, F.q5, F.q7, fun _ => ⟨(show _ from (by simp [hdep] : d_ 0 = true)), (show _ from (by simp [hdep] : d_ 1 = true)), (show _ from (by simp [hdep] : d_ 2 = true)), (show _ from (by simp [hdep] : d_ 3 = true)), (show _ from (by simp [hdep] : d_ 4 = true)), (show _ from (by simp [hdep] : d_ 5 = true))⟩, fun h => ⟨(F.q9 h).1, (F.q9 h).2.1, (F.q9 h).2.2.1, (F.q9 h).2.2.2.1, (F.q9 h).2.2.2.2.1, (F.q9 h).2.2.2.2.2.1, (F.q9 h).2.2.2.2.2.2.1, rfl⟩, fun h => ⟨(F.q10 h).1, (F.q10 h).2.1, (F.q10 h).2.2.1, (F.q10 h).2.2.2.1, (F.q10 h).2.2.2.2.1, (F.q10 h).2.2.2.2.2.1, (F.q10 h).2.2.2.2.2.2.1, (F.q10 h).2.2.2.2.2.2.2.1, rfl, (F.q10 h).2.2.2.2.2.2.2.2.2⟩, fun h => ⟨(F.q11 h).1, (F.q11 h).2.1, (F.q11 h).2.2.1, (F.q11 h).2.2.2.1, (F.q11 h).2.2.2.2.1, (F.q11 h).2.2.2.2.2.1, (F.q11 h).2.2.2.2.2.2.1, (F.q11 h).2.2.2.2.2.2.2.1, rfl, (F.q11 h).2.2.2.2.2.2.2.2.2.1, (F.q11 h).2.2.2.2.2.2.2.2.2.2⟩, F.f0, F.f1, F.f2, F.f3, F.f4, F.f5, F.f6, F.f7, fun _ => rfl, F.f10, F.st0, F.st1, F.st2, F.st3, F.st4⟩
      clear F
      go_simp
      exact HK.out _ _ ⟨_, _, _, _, _, _, _, _, _, _, _, _, rfl, HF.out⟩
    · have hS := F.st2 (by simp [hdep] : d_ 7 = true) hd_
      obtain rfl := F.f3 (by simp [hdep])
      obtain rfl := F.f8 (by simp [hdep])
      obtain ⟨⟨ku0, kcell0⟩, kfr0, hres⟩ := kc9.out g1 g2 w1 hS
      have HF : Hid (wit22F bx al n cl ar m cr n1 n2 A B S0 S1 S2 S3 S4 (upd d_ 9) x7 x8 x9 (.slice g1.1 n1 g1.2) x11 x12 x13 x14 (.pointer (some ⟨bx, 0, none⟩)) x16 g1 g2 (w1.setCell ⟨bx, 0, none⟩ (.slice g1.1 n1 g1.2))) := ⟨F.q1, F.q3, F.q5, F.q7, F.q8, fun _ => ⟨(show _ from (by simp [hdep] : d_ 0 = true)), (show _ from (by simp [hdep] : d_ 1 = true)), (show _ from (by simp [hdep] : d_ 2 = true)), (show _ from (by simp [hdep] : d_ 3 = true)), (show _ from (by simp [hdep] : d_ 4 = true)), (show _ from (by simp [hdep] : d_ 5 = true)), (show _ from (by simp [hdep] : d_ 7 = true)), (show _ from (by simp [hdep] : d_ 8 = true))⟩, fun h => ⟨(F.q10 h).1, (F.q10 h).2.1, (F.q10 h).2.2.1, (F.q10 h).2.2.2.1, (F.q10 h).2.2.2.2.1, (F.q10 h).2.2.2.2.2.1, (F.q10 h).2.2.2.2.2.2.1, (F.q10 h).2.2.2.2.2.2.2.1, (F.q10 h).2.2.2.2.2.2.2.2.1, rfl⟩, fun h => ⟨(F.q11 h).1, (F.q11 h).2.1, (F.q11 h).2.2.1, (F.q11 h).2.2.2.1, (F.q11 h).2.2.2.2.1, (F.q11 h).2.2.2.2.2.1, (F.q11 h).2.2.2.2.2.2.1, (F.q11 h).2.2.2.2.2.2.2.1, (F.q11 h).2.2.2.2.2.2.2.2.1, rfl, (F.q11 h).2.2.2.2.2.2.2.2.2.2⟩, F.f0, F.f1, F.f2, F.f3, F.f4, F.f5, F.f6, F.f7, F.f8, F.f10, fun h => (by have h2 : d_ 3 = false := h; rw [(by simp [hdep] : d_ 3 = true)] at h2; cases h2), fun _ h => (by have h2 : d_ 7 = false := h; rw [(by simp [hdep] : d_ 7 = true)] at h2; cases h2), fun _ h => (by simp [upd] at h), fun _ _ => hres, fun h => (by have h2 : d_ 9 = true := (F.q11 h).2.2.2.2.2.2.2.2.2.1; rw [show d_ 9 = false from hd_] at h2; cases h2)⟩
      clear F hS hres
      go_simp
      exact HK.out _ _ ⟨_, _, _, _, _, _, _, _, _, _, _, _, rfl, HF.out⟩
    · have HF : Hid (wit22F bx al n cl ar m cr n1 n2 A B S0 S1 S2 S3 S4 (upd d_ 10) x7 x8 x9 x10 x11 x12 x13 x14 x15 (.pointer (some ⟨bx, 1, none⟩)) g1 g2 w1) := ⟨F.q1, F.q3, F.q5, F.q7, F.q8, F.q9, fun _ => ⟨(show _ from (by simp [hdep] : d_ 0 = true)), (show _ from (by simp [hdep] : d_ 1 = true)), (show _ from (by simp [hdep] : d_ 2 = true)), (show _ from (by simp [hdep] : d_ 3 = true)), (show _ from (by simp [hdep] : d_ 4 = true)), (show _ from (by simp [hdep] : d_ 5 = true)), (show _ from (by simp [hdep] : d_ 6 = true)), (show _ from (by simp [hdep] : d_ 7 = true)), (show _ from (by simp [hdep] : d_ 8 = true)), (show _ from (by simp [hdep] : d_ 9 = true))⟩, fun h => ⟨(F.q11 h).1, (F.q11 h).2.1, (F.q11 h).2.2.1, (F.q11 h).2.2.2.1, (F.q11 h).2.2.2.2.1, (F.q11 h).2.2.2.2.2.1, (F.q11 h).2.2.2.2.2.2.1, (F.q11 h).2.2.2.2.2.2.2.1, (F.q11 h).2.2.2.2.2.2.2.2.1, (F.q11 h).2.2.2.2.2.2.2.2.2.1, rfl⟩, F.f0, F.f1, F.f2, F.f3, F.f4, F.f5, F.f6, F.f7, F.f8, fun _ => rfl, F.st0, F.st1, F.st2, F.st3, F.st4⟩
      clear F
      go_simp
      exact HK.out _ _ ⟨_, _, _, _, _, _, _, _, _, _, _, _, rfl, HF.out⟩
    · have hS := F.st3 (by simp [hdep] : d_ 9 = true) hd_
      obtain rfl := F.f7 (by simp [hdep])
      obtain rfl := F.f10 (by simp [hdep])
      obtain ⟨⟨ku0, kcell0⟩, kfr0, hres⟩ := kc11.out g1 g2 w1 hS
      have HF : Hid (wit22F bx al n cl ar m cr n1 n2 A B S0 S1 S2 S3 S4 (upd d_ 11) x7 x8 x9 x10 x11 x12 x13 (.slice g2.1 n2 g2.2) x15 (.pointer (some ⟨bx, 1, none⟩)) g1 g2 (w1.setCell ⟨bx, 1, none⟩ (.slice g2.1 n2 g2.2))) := ⟨F.q1, F.q3, F.q5, F.q7, F.q8, F.q9, F.q10, fun _ => ⟨(show _ from (by simp [hdep] : d_ 0 = true)), (show _ from (by simp [hdep] : d_ 1 = true)), (show _ from (by simp [hdep] : d_ 2 = true)), (show _ from (by simp [hdep] : d_ 3 = true)), (show _ from (by simp [hdep] : d_ 4 = true)), (show _ from (by simp [hdep] : d_ 5 = true)), (show _ from (by simp [hdep] : d_ 6 = true)), (show _ from (by simp [hdep] : d_ 7 = true)), (show _ from (by simp [hdep] : d_ 8 = true)), (show _ from (by simp [hdep] : d_ 9 = true)), (show _ from (by simp [hdep] : d_ 10 = true))⟩, F.f0, F.f1, F.f2, F.f3, F.f4, F.f5, F.f6, F.f7, F.f8, F.f10, fun h => (by have h2 : d_ 3 = false := h; rw [(by simp [hdep] : d_ 3 = true)] at h2; cases h2), fun _ h => (by have h2 : d_ 7 = false := h; rw [(by simp [hdep] : d_ 7 = true)] at h2; cases h2), fun _ h => (by have h2 : d_ 9 = false := h; rw [(by simp [hdep] : d_ 9 = true)] at h2; cases h2), fun _ h => (by simp [upd] at h), fun _ => hres⟩
      clear F hS hres
      go_simp
      exact HK.out _ _ ⟨_, _, _, _, _, _, _, _, _, _, _, _, rfl, HF.out⟩
  · rintro d_ a_ w1 hall ⟨x7, x8, x9, x10, x11, x12, x13, x14, x15, x16, g1, g2, rfl, F⟩
    have hall' : ∀ k, k < 12 → d_ k = true := hall
    obtain rfl := F.f0 (hall' 0 (by decide))
    obtain rfl := F.f1 (hall' 1 (by decide))
    obtain rfl := F.f2 (hall' 2 (by decide))
    obtain rfl := F.f3 (hall' 3 (by decide))
    obtain rfl := F.f4 (hall' 4 (by decide))
    obtain rfl := F.f5 (hall' 5 (by decide))
    obtain rfl := F.f6 (hall' 6 (by decide))
    obtain rfl := F.f7 (hall' 7 (by decide))
    obtain rfl := F.f8 (hall' 8 (by decide))
    obtain rfl := F.f10 (hall' 10 (by decide))
    have hst := F.st4 (hall' 11 (by decide))
    exact HQ.out g1 g2 w1 hst
structure wit114F (b3 : Nat) (b5 : Nat) (al : Option Addr) (n : Nat) (cl : Nat) (ar : Option Addr) (m : Nat) (cr : Nat) (n1 : Nat) (n2 : Nat) (A : Nat) (B : Nat) (S0 : World → Prop) (S1 : Option Addr × Nat → World → Prop) (S2 : Option Addr × Nat → Option Addr × Nat → World → Prop) (S3 : Option Addr × Nat → Option Addr × Nat → World → Prop) (S4 : Option Addr × Nat → Option Addr × Nat → World → Prop) (d : Nat → Bool) (x11 x12 x13 x14 x15 x16 x17 x18 x19 x20 x21 x22 : Value) (g1 : Option Addr × Nat) (g2 : Option Addr × Nat) (w : World) : Prop where
  q1 : d 1 = true → d 0 = true
  q3 : d 3 = true → d 2 = true
  q4 : d 4 = true → d 1 = true ∧ d 3 = true
  q6 : d 6 = true → d 5 = true
  q8 : d 8 = true → d 7 = true
  q9 : d 9 = true → d 4 = true ∧ d 6 = true ∧ d 8 = true
  q10 : d 10 = true → d 0 = true ∧ d 1 = true ∧ d 2 = true ∧ d 3 = true ∧ d 4 = true ∧ d 5 = true ∧ d 6 = true
  q11 : d 11 = true → d 0 = true ∧ d 1 = true ∧ d 2 = true ∧ d 3 = true ∧ d 4 = true ∧ d 5 = true ∧ d 6 = true ∧ d 9 = true ∧ d 10 = true
  q12 : d 12 = true → d 0 = true ∧ d 1 = true ∧ d 2 = true ∧ d 3 = true ∧ d 4 = true ∧ d 5 = true ∧ d 6 = true ∧ d 7 = true ∧ d 8 = true ∧ d 9 = true ∧ d 10 = true ∧ d 11 = true
  q13 : d 13 = true → d 0 = true ∧ d 1 = true ∧ d 2 = true ∧ d 3 = true ∧ d 4 = true ∧ d 5 = true ∧ d 6 = true ∧ d 7 = true ∧ d 8 = true ∧ d 9 = true ∧ d 10 = true ∧ d 11 = true ∧ d 12 = true
  f0 : d 0 = true → x11 = .pointer (some ⟨b5, 0, none⟩)
  f1 : d 1 = true → x12 = .slice al n cl
  f2 : d 2 = true → x13 = .pointer (some ⟨b3, 0, none⟩)
  f3 : d 3 = true → x14 = .int .u64 A
  f4 : d 4 = true → x15 = .slice g1.1 n1 g1.2
  f5 : d 5 = true → x16 = .pointer (some ⟨b5, 1, none⟩)
  f6 : d 6 = true → x17 = .slice ar m cr
  f7 : d 7 = true → x18 = .pointer (some ⟨b3, 1, none⟩)
  f8 : d 8 = true → x19 = .int .u64 B
  f9 : d 9 = true → x20 = .slice g2.1 n2 g2.2
  f10 : d 10 = true → x21 = .pointer (some ⟨b5, 0, none⟩)
  f12 : d 12 = true → x22 = .pointer (some ⟨b5, 1, none⟩)
  st0 : d 4 = false → S0 w
  st1 : d 4 = true → d 9 = false → S1 g1 w
  st2 : d 9 = true → d 11 = false → S2 g1 g2 w
  st3 : d 11 = true → d 13 = false → S3 g1 g2 w
  st4 : d 13 = true → S4 g1 g2 w
noncomputable def wit114C : Code := (Tryd.f114.body.bind (regionAt 2)).getD .skip
set_option maxRecDepth 100000 in
set_option maxHeartbeats 4000000 in
theorem wit114 {b3 : Nat} {b5 : Nat} {al : Option Addr} {n : Nat} {cl : Nat} {ar : Option Addr} {m : Nat} {cr : Nat} {n1 : Nat} {n2 : Nat} {A : Nat} {B : Nat} {S0 : World → Prop} {S1 : Option Addr × Nat → World → Prop} {S2 : Option Addr × Nat → Option Addr × Nat → World → Prop} {S3 : Option Addr × Nat → Option Addr × Nat → World → Prop} {S4 : Option Addr × Nat → Option Addr × Nat → World → Prop} {Q : Exit → Act → World → Prop} {W1 : World} (h0 : S0 W1.drew)
    (kl1 : Hid (∀ (w : World), (S0 w) → w.cell? ⟨b5, 0, none⟩ = some (.slice al n cl)))
    (kl3 : Hid (∀ (w : World), (S0 w) → w.cell? ⟨b3, 0, none⟩ = some (.int .u64 A)))
    (kc4 : Hid (∀ (w : World), S0 w → Calls Tryd.prog 117 #[.slice al n cl, .int .u64 A] w fun e w' => ∃ g1 : Option Addr × Nat, e = .returned (.slice g1.1 n1 g1.2) ∧ S1 g1 w'))
    (kl6 : Hid (∀ (g1 : Option Addr × Nat) (w : World), (S0 w ∨ S1 g1 w) → w.cell? ⟨b5, 1, none⟩ = some (.slice ar m cr)))
    (kl8 : Hid (∀ (g1 : Option Addr × Nat) (w : World), (S0 w ∨ S1 g1 w) → w.cell? ⟨b3, 1, none⟩ = some (.int .u64 B)))
    (kc9 : Hid (∀ (g1 : Option Addr × Nat) (w : World), S1 g1 w → Calls Tryd.prog 117 #[.slice ar m cr, .int .u64 B] w fun e w' => ∃ g2 : Option Addr × Nat, e = .returned (.slice g2.1 n2 g2.2) ∧ S2 g1 g2 w'))
    (kc11 : Hid (∀ (g1 : Option Addr × Nat) (g2 : Option Addr × Nat) (w : World), S2 g1 g2 w → (∃ u, w.cell? ⟨b5, 0, none⟩ = some u) ∧ w.frozen? ⟨b5, 0, none⟩ = false ∧ S3 g1 g2 (w.setCell ⟨b5, 0, none⟩ (.slice g1.1 n1 g1.2))))
    (kc13 : Hid (∀ (g1 : Option Addr × Nat) (g2 : Option Addr × Nat) (w : World), S3 g1 g2 w → (∃ u, w.cell? ⟨b5, 1, none⟩ = some u) ∧ w.frozen? ⟨b5, 1, none⟩ = false ∧ S4 g1 g2 (w.setCell ⟨b5, 1, none⟩ (.slice g2.1 n2 g2.2))))
    {s0 s1 s2 s4 s6 s7 s8 s9 s10 s11 s12 s13 s14 s15 s16 s17 s18 s19 s20 s21 s22 s23 : Value} {dd : List Deferred}
    (hQ : ∀ (g1 : Option Addr × Nat) (g2 : Option Addr × Nat) (w' : World), S4 g1 g2 w' → Q .normal { tmps := #[s0, s1, s2, .pointer (some ⟨b3, 0, none⟩), s4, .pointer (some ⟨b5, 0, none⟩), s6, s7, s8, s9, s10, .pointer (some ⟨b5, 0, none⟩), .slice al n cl, .pointer (some ⟨b3, 0, none⟩), .int .u64 A, .slice g1.1 n1 g1.2, .pointer (some ⟨b5, 1, none⟩), .slice ar m cr, .pointer (some ⟨b3, 1, none⟩), .int .u64 B, .slice g2.1 n2 g2.2, .pointer (some ⟨b5, 0, none⟩), .pointer (some ⟨b5, 1, none⟩), s23], defers := dd } w') :
    Code.wpIn (wideAt none) 0 Tryd.prog wit114C Q { tmps := #[s0, s1, s2, .pointer (some ⟨b3, 0, none⟩), s4, .pointer (some ⟨b5, 0, none⟩), s6, s7, s8, s9, s10, s11, s12, s13, s14, s15, s16, s17, s18, s19, s20, s21, s22, s23], defers := dd } W1 := by
  have HQ := Lib.hid hQ
  clear hQ
  conv => arg 4; whnf
  refine wpIn_region_invG mixed (by kernel_rfl) (fun d_ a_ w' => ∃ (x11 : Value) (x12 : Value) (x13 : Value) (x14 : Value) (x15 : Value) (x16 : Value) (x17 : Value) (x18 : Value) (x19 : Value) (x20 : Value) (x21 : Value) (x22 : Value) (g1 : Option Addr × Nat) (g2 : Option Addr × Nat), a_ = { tmps := #[s0, s1, s2, .pointer (some ⟨b3, 0, none⟩), s4, .pointer (some ⟨b5, 0, none⟩), s6, s7, s8, s9, s10, x11, x12, x13, x14, x15, x16, x17, x18, x19, x20, x21, x22, s23], defers := dd } ∧ wit114F b3 b5 al n cl ar m cr n1 n2 A B S0 S1 S2 S3 S4 d_ x11 x12 x13 x14 x15 x16 x17 x18 x19 x20 x21 x22 g1 g2 w') ?_ ?_ ?_
  · refine ⟨s11, s12, s13, s14, s15, s16, s17, s18, s19, s20, s21, s22, default, default, rfl, ?_⟩
    constructor <;> first | rfl | (intro _; rfl) | (intro h; cases h; done) | (intro _; exact h0) | exact h0
  · refine ⟨?_, ?_, ?_, ?_, ?_, ?_, ?_, ?_, ?_, ?_, ?_, ?_, ?_, ?_, trivial⟩
    all_goals
      rintro d_ a_ w1 K hd_ hdep ⟨x11, x12, x13, x14, x15, x16, x17, x18, x19, x20, x21, x22, g1, g2, rfl, F⟩ HK
      simp [Region.binds] at hdep
    · have HF : Hid (wit114F b3 b5 al n cl ar m cr n1 n2 A B S0 S1 S2 S3 S4 (upd d_ 0) (.pointer (some ⟨b5, 0, none⟩)) x12 x13 x14 x15 x16 x17 x18 x19 x20 x21 x22 g1 g2 w1) := ⟨fun h => rfl, F.q3, F.q4, F.q6, F.q8, F.q9, fun h => ⟨rfl, (F.q10 h).2.1, (F.q10 h).2.2.1, (F.q10 h).2.2.2.1, (F.q10 h).2.2.2.2.1, (F.q10 h).2.2.2.2.2.1, (F.q10 h).2.2.2.2.2.2⟩, fun h => ⟨rfl, (F.q11 h).2.1, (F.q11 h).2.2.1, (F.q11 h).2.2.2.1, (F.q11 h).2.2.2.2.1, (F.q11 h).2.2.2.2.2.1, (F.q11 h).2.2.2.2.2.2.1, (F.q11 h).2.2.2.2.2.2.2.1, (F.q11 h).2.2.2.2.2.2.2.2⟩, fun h => ⟨rfl, (F.q12 h).2.1, (F.q12 h).2.2.1, (F.q12 h).2.2.2.1, (F.q12 h).2.2.2.2.1, (F.q12 h).2.2.2.2.2.1, (F.q12 h).2.2.2.2.2.2.1, (F.q12 h).2.2.2.2.2.2.2.1, (F.q12 h).2.2.2.2.2.2.2.2.1, (F.q12 h).2.2.2.2.2.2.2.2.2.1, (F.q12 h).2.2.2.2.2.2.2.2.2.2.1, (F.q12 h).2.2.2.2.2.2.2.2.2.2.2⟩, fun h => ⟨rfl, (F.q13 h).2.1, (F.q13 h).2.2.1, (F.q13 h).2.2.2.1, (F.q13 h).2.2.2.2.1, (F.q13 h).2.2.2.2.2.1, (F.q13 h).2.2.2.2.2.2.1, (F.q13 h).2.2.2.2.2.2.2.1, (F.q13 h).2.2.2.2.2.2.2.2.1, (F.q13 h).2.2.2.2.2.2.2.2.2.1, (F.q13 h).2.2.2.2.2.2.2.2.2.2.1, (F.q13 h).2.2.2.2.2.2.2.2.2.2.2.1, (F.q13 h).2.2.2.2.2.2.2.2.2.2.2.2⟩, fun _ => rfl, F.f1, F.f2, F.f3, F.f4, F.f5, F.f6, F.f7, F.f8, F.f9, F.f10, F.f12, F.st0, F.st1, F.st2, F.st3, F.st4⟩
      clear F
      go_simp
      exact HK.out _ _ ⟨_, _, _, _, _, _, _, _, _, _, _, _, _, _, rfl, HF.out⟩
    · have hst : S0 w1 := by
        have n_ : d_ 4 = false := by
          cases e_ : d_ 4 with
          | false => rfl
          | true => have h2 := (F.q4 e_).1; rw [show d_ 1 = false from hd_] at h2; cases h2
        exact (F.st0 n_)
      have kk := kl1.out w1 hst
      clear hst
      obtain rfl := F.f0 (by simp [hdep])
      have HF : Hid (wit114F b3 b5 al n cl ar m cr n1 n2 A B S0 S1 S2 S3 S4 (upd d_ 1) (.pointer (some ⟨b5, 0, none⟩)) (.slice al n cl) x13 x14 x15 x16 x17 x18 x19 x20 x21 x22 g1 g2 w1) := ⟨fun _ => (show _ from (by simp [hdep] : d_ 0 = true)), F.q3, fun h => ⟨rfl, (F.q4 h).2⟩, F.q6, F.q8, F.q9, fun h => ⟨(F.q10 h).1, rfl, (F.q10 h).2.2.1, (F.q10 h).2.2.2.1, (F.q10 h).2.2.2.2.1, (F.q10 h).2.2.2.2.2.1, (F.q10 h).2.2.2.2.2.2⟩, fun h => ⟨(F.q11 h).1, rfl, (F.q11 h).2.2.1, (F.q11 h).2.2.2.1, (F.q11 h).2.2.2.2.1, (F.q11 h).2.2.2.2.2.1, (F.q11 h).2.2.2.2.2.2.1, (F.q11 h).2.2.2.2.2.2.2.1, (F.q11 h).2.2.2.2.2.2.2.2⟩, fun h => ⟨(F.q12 h).1, rfl, (F.q12 h).2.2.1, (F.q12 h).2.2.2.1, (F.q12 h).2.2.2.2.1, (F.q12 h).2.2.2.2.2.1, (F.q12 h).2.2.2.2.2.2.1, (F.q12 h).2.2.2.2.2.2.2.1, (F.q12 h).2.2.2.2.2.2.2.2.1, (F.q12 h).2.2.2.2.2.2.2.2.2.1, (F.q12 h).2.2.2.2.2.2.2.2.2.2.1, (F.q12 h).2.2.2.2.2.2.2.2.2.2.2⟩, fun h => ⟨(F.q13 h).1, rfl, (F.q13 h).2.2.1, (F.q13 h).2.2.2.1, (F.q13 h).2.2.2.2.1, (F.q13 h).2.2.2.2.2.1, (F.q13 h).2.2.2.2.2.2.1, (F.q13 h).2.2.2.2.2.2.2.1, (F.q13 h).2.2.2.2.2.2.2.2.1, (F.q13 h).2.2.2.2.2.2.2.2.2.1, (F.q13 h).2.2.2.2.2.2.2.2.2.2.1, (F.q13 h).2.2.2.2.2.2.2.2.2.2.2.1, (F.q13 h).2.2.2.2.2.2.2.2.2.2.2.2⟩, F.f0, fun _ => rfl, F.f2, F.f3, F.f4, F.f5, F.f6, F.f7, F.f8, F.f9, F.f10, F.f12, F.st0, F.st1, F.st2, F.st3, F.st4⟩
      clear F
      go_simp
      exact HK.out _ _ ⟨_, _, _, _, _, _, _, _, _, _, _, _, _, _, rfl, HF.out⟩
    · have HF : Hid (wit114F b3 b5 al n cl ar m cr n1 n2 A B S0 S1 S2 S3 S4 (upd d_ 2) x11 x12 (.pointer (some ⟨b3, 0, none⟩)) x14 x15 x16 x17 x18 x19 x20 x21 x22 g1 g2 w1) := ⟨F.q1, fun h => rfl, F.q4, F.q6, F.q8, F.q9, fun h => ⟨(F.q10 h).1, (F.q10 h).2.1, rfl, (F.q10 h).2.2.2.1, (F.q10 h).2.2.2.2.1, (F.q10 h).2.2.2.2.2.1, (F.q10 h).2.2.2.2.2.2⟩, fun h => ⟨(F.q11 h).1, (F.q11 h).2.1, rfl, (F.q11 h).2.2.2.1, (F.q11 h).2.2.2.2.1, (F.q11 h).2.2.2.2.2.1, (F.q11 h).2.2.2.2.2.2.1, (F.q11 h).2.2.2.2.2.2.2.1, (F.q11 h).2.2.2.2.2.2.2.2⟩, fun h => ⟨(F.q12 h).1, (F.q12 h).2.1, rfl, (F.q12 h).2.2.2.1, (F.q12 h).2.2.2.2.1, (F.q12 h).2.2.2.2.2.1, (F.q12 h).2.2.2.2.2.2.1, (F.q12 h).2.2.2.2.2.2.2.1, (F.q12 h).2.2.2.2.2.2.2.2.1, (F.q12 h).2.2.2.2.2.2.2.2.2.1, (F.q12 h).2.2.2.2.2.2.2.2.2.2.1, (F.q12 h).2.2.2.2.2.2.2.2.2.2.2⟩, fun h => ⟨(F.q13 h).1, (F.q13 h).2.1, rfl, (F.q13 h).2.2.2.1, (F.q13 h).2.2.2.2.1, (F.q13 h).2.2.2.2.2.1, (F.q13 h).2.2.2.2.2.2.1, (F.q13 h).2.2.2.2.2.2.2.1, (F.q13 h).2.2.2.2.2.2.2.2.1, (F.q13 h).2.2.2.2.2.2.2.2.2.1, (F.q13 h).2.2.2.2.2.2.2.2.2.2.1, (F.q13 h).2.2.2.2.2.2.2.2.2.2.2.1, (F.q13 h).2.2.2.2.2.2.2.2.2.2.2.2⟩, F.f0, F.f1, fun _ => rfl, F.f3, F.f4, F.f5, F.f6, F.f7, F.f8, F.f9, F.f10, F.f12, F.st0, F.st1, F.st2, F.st3, F.st4⟩
      clear F
      go_simp
      exact HK.out _ _ ⟨_, _, _, _, _, _, _, _, _, _, _, _, _, _, rfl, HF.out⟩
    · have hst : S0 w1 := by
        have n_ : d_ 4 = false := by
          cases e_ : d_ 4 with
          | false => rfl
          | true => have h2 := (F.q4 e_).2; rw [show d_ 3 = false from hd_] at h2; cases h2
        exact (F.st0 n_)
      have kk := kl3.out w1 hst
      clear hst
      obtain rfl := F.f2 (by simp [hdep])
      have HF : Hid (wit114F b3 b5 al n cl ar m cr n1 n2 A B S0 S1 S2 S3 S4 (upd d_ 3) x11 x12 (.pointer (some ⟨b3, 0, none⟩)) (.int .u64 A) x15 x16 x17 x18 x19 x20 x21 x22 g1 g2 w1) := ⟨F.q1, fun _ => (show _ from (by simp [hdep] : d_ 2 = true)), fun h => ⟨(F.q4 h).1, rfl⟩, F.q6, F.q8, F.q9, fun h => ⟨(F.q10 h).1, (F.q10 h).2.1, (F.q10 h).2.2.1, rfl, (F.q10 h).2.2.2.2.1, (F.q10 h).2.2.2.2.2.1, (F.q10 h).2.2.2.2.2.2⟩, fun h => ⟨(F.q11 h).1, (F.q11 h).2.1, (F.q11 h).2.2.1, rfl, (F.q11 h).2.2.2.2.1, (F.q11 h).2.2.2.2.2.1, (F.q11 h).2.2.2.2.2.2.1, (F.q11 h).2.2.2.2.2.2.2.1, (F.q11 h).2.2.2.2.2.2.2.2⟩, fun h => ⟨(F.q12 h).1, (F.q12 h).2.1, (F.q12 h).2.2.1, rfl, (F.q12 h).2.2.2.2.1, (F.q12 h).2.2.2.2.2.1, (F.q12 h).2.2.2.2.2.2.1, (F.q12 h).2.2.2.2.2.2.2.1, (F.q12 h).2.2.2.2.2.2.2.2.1, (F.q12 h).2.2.2.2.2.2.2.2.2.1, (F.q12 h).2.2.2.2.2.2.2.2.2.2.1, (F.q12 h).2.2.2.2.2.2.2.2.2.2.2⟩, fun h => ⟨(F.q13 h).1, (F.q13 h).2.1, (F.q13 h).2.2.1, rfl, (F.q13 h).2.2.2.2.1, (F.q13 h).2.2.2.2.2.1, (F.q13 h).2.2.2.2.2.2.1, (F.q13 h).2.2.2.2.2.2.2.1, (F.q13 h).2.2.2.2.2.2.2.2.1, (F.q13 h).2.2.2.2.2.2.2.2.2.1, (F.q13 h).2.2.2.2.2.2.2.2.2.2.1, (F.q13 h).2.2.2.2.2.2.2.2.2.2.2.1, (F.q13 h).2.2.2.2.2.2.2.2.2.2.2.2⟩, F.f0, F.f1, F.f2, fun _ => rfl, F.f4, F.f5, F.f6, F.f7, F.f8, F.f9, F.f10, F.f12, F.st0, F.st1, F.st2, F.st3, F.st4⟩
      clear F
      go_simp
      exact HK.out _ _ ⟨_, _, _, _, _, _, _, _, _, _, _, _, _, _, rfl, HF.out⟩
    · have hS := F.st0  hd_
      obtain rfl := F.f1 (by simp [hdep])
      obtain rfl := F.f3 (by simp [hdep])
      have hc := kc4.out w1 hS
      have HF := Lib.hid F
      clear F
      go_simp
      refine ⟨trivial, rfl, wideAt_calls (hc.mono ?_)⟩
      rintro e w5 ⟨v_, rfl, hres⟩
      exact HK.out _ _ ⟨_, _, _, _, _, _, _, _, _, _, _, _, v_, g2, rfl, ⟨HF.out.q1, HF.out.q3, fun _ => ⟨(show _ from (by simp [hdep] : d_ 1 = true)), (show _ from (by simp [hdep] : d_ 3 = true))⟩, HF.out.q6, HF.out.q8, fun h => ⟨rfl, (HF.out.q9 h).2.1, (HF.out.q9 h).2.2⟩, fun h => ⟨(HF.out.q10 h).1, (HF.out.q10 h).2.1, (HF.out.q10 h).2.2.1, (HF.out.q10 h).2.2.2.1, rfl, (HF.out.q10 h).2.2.2.2.2.1, (HF.out.q10 h).2.2.2.2.2.2⟩, fun h => ⟨(HF.out.q11 h).1, (HF.out.q11 h).2.1, (HF.out.q11 h).2.2.1, (HF.out.q11 h).2.2.2.1, rfl, (HF.out.q11 h).2.2.2.2.2.1, (HF.out.q11 h).2.2.2.2.2.2.1, (HF.out.q11 h).2.2.2.2.2.2.2.1, (HF.out.q11 h).2.2.2.2.2.2.2.2⟩, fun h => ⟨(HF.out.q12 h).1, (HF.out.q12 h).2.1, (HF.out.q12 h).2.2.1, (HF.out.q12 h).2.2.2.1, rfl, (HF.out.q12 h).2.2.2.2.2.1, (HF.out.q12 h).2.2.2.2.2.2.1, (HF.out.q12 h).2.2.2.2.2.2.2.1, (HF.out.q12 h).2.2.2.2.2.2.2.2.1, (HF.out.q12 h).2.2.2.2.2.2.2.2.2.1, (HF.out.q12 h).2.2.2.2.2.2.2.2.2.2.1, (HF.out.q12 h).2.2.2.2.2.2.2.2.2.2.2⟩, fun h => ⟨(HF.out.q13 h).1, (HF.out.q13 h).2.1, (HF.out.q13 h).2.2.1, (HF.out.q13 h).2.2.2.1, rfl, (HF.out.q13 h).2.2.2.2.2.1, (HF.out.q13 h).2.2.2.2.2.2.1, (HF.out.q13 h).2.2.2.2.2.2.2.1, (HF.out.q13 h).2.2.2.2.2.2.2.2.1, (HF.out.q13 h).2.2.2.2.2.2.2.2.2.1, (HF.out.q13 h).2.2.2.2.2.2.2.2.2.2.1, (HF.out.q13 h).2.2.2.2.2.2.2.2.2.2.2.1, (HF.out.q13 h).2.2.2.2.2.2.2.2.2.2.2.2⟩, HF.out.f0, HF.out.f1, HF.out.f2, HF.out.f3, fun _ => rfl, HF.out.f5, HF.out.f6, HF.out.f7, HF.out.f8, HF.out.f9, HF.out.f10, HF.out.f12, fun h => (by simp [upd] at h), fun _ _ => hres, fun h _ => (by have h2 : d_ 4 = true := (HF.out.q9 h).1; rw [show d_ 4 = false from hd_] at h2; cases h2), fun h _ => (by have h2 : d_ 4 = true := (HF.out.q11 h).2.2.2.2.1; rw [show d_ 4 = false from hd_] at h2; cases h2), fun h => (by have h2 : d_ 4 = true := (HF.out.q13 h).2.2.2.2.1; rw [show d_ 4 = false from hd_] at h2; cases h2)⟩⟩
    · have HF : Hid (wit114F b3 b5 al n cl ar m cr n1 n2 A B S0 S1 S2 S3 S4 (upd d_ 5) x11 x12 x13 x14 x15 (.pointer (some ⟨b5, 1, none⟩)) x17 x18 x19 x20 x21 x22 g1 g2 w1) := ⟨F.q1, F.q3, F.q4, fun h => rfl, F.q8, F.q9, fun h => ⟨(F.q10 h).1, (F.q10 h).2.1, (F.q10 h).2.2.1, (F.q10 h).2.2.2.1, (F.q10 h).2.2.2.2.1, rfl, (F.q10 h).2.2.2.2.2.2⟩, fun h => ⟨(F.q11 h).1, (F.q11 h).2.1, (F.q11 h).2.2.1, (F.q11 h).2.2.2.1, (F.q11 h).2.2.2.2.1, rfl, (F.q11 h).2.2.2.2.2.2.1, (F.q11 h).2.2.2.2.2.2.2.1, (F.q11 h).2.2.2.2.2.2.2.2⟩, fun h => ⟨(F.q12 h).1, (F.q12 h).2.1, (F.q12 h).2.2.1, (F.q12 h).2.2.2.1, (F.q12 h).2.2.2.2.1, rfl, (F.q12 h).2.2.2.2.2.2.1, (F.q12 h).2.2.2.2.2.2.2.1, (F.q12 h).2.2.2.2.2.2.2.2.1, (F.q12 h).2.2.2.2.2.2.2.2.2.1, (F.q12 h).2.2.2.2.2.2.2.2.2.2.1, (F.q12 h).2.2.2.2.2.2.2.2.2.2.2⟩, fun h => ⟨(F.q13 h).1, (F.q13 h).2.1, (F.q13 h).2.2.1, (F.q13 h).2.2.2.1, (F.q13 h).2.2.2.2.1, rfl, (F.q13 h).2.2.2.2.2.2.1, (F.q13 h).2.2.2.2.2.2.2.1, (F.q13 h).2.2.2.2.2.2.2.2.1, (F.q13 h).2.2.2.2.2.2.2.2.2.1, (F.q13 h).2.2.2.2.2.2.2.2.2.2.1, (F.q13 h).2.2.2.2.2.2.2.2.2.2.2.1, (F.q13 h).2.2.2.2.2.2.2.2.2.2.2.2⟩, F.f0, F.f1, F.f2, F.f3, F.f4, fun _ => rfl, F.f6, F.f7, F.f8, F.f9, F.f10, F.f12, F.st0, F.st1, F.st2, F.st3, F.st4⟩
      clear F
      go_simp
      exact HK.out _ _ ⟨_, _, _, _, _, _, _, _, _, _, _, _, _, _, rfl, HF.out⟩
    · have hst : S0 w1 ∨ S1 g1 w1 := by
        cases e1 : d_ 4 with
        | false => exact .inl ((F.st0 e1))
        | true =>
          have n_ : d_ 9 = false := by
            cases e_ : d_ 9 with
            | false => rfl
            | true => have h2 := (F.q9 e_).2.1; rw [show d_ 6 = false from hd_] at h2; cases h2
          exact .inr ((F.st1 e1 n_))
      have kk := kl6.out g1 w1 hst
      clear hst
      obtain rfl := F.f5 (by simp [hdep])
      have HF : Hid (wit114F b3 b5 al n cl ar m cr n1 n2 A B S0 S1 S2 S3 S4 (upd d_ 6) x11 x12 x13 x14 x15 (.pointer (some ⟨b5, 1, none⟩)) (.slice ar m cr) x18 x19 x20 x21 x22 g1 g2 w1) := ⟨F.q1, F.q3, F.q4, fun _ => (show _ from (by simp [hdep] : d_ 5 = true)), F.q8, fun h => ⟨(F.q9 h).1, rfl, (F.q9 h).2.2⟩, fun h => ⟨(F.q10 h).1, (F.q10 h).2.1, (F.q10 h).2.2.1, (F.q10 h).2.2.2.1, (F.q10 h).2.2.2.2.1, (F.q10 h).2.2.2.2.2.1, rfl⟩, fun h => ⟨(F.q11 h).1, (F.q11 h).2.1, (F.q11 h).2.2.1, (F.q11 h).2.2.2.1, (F.q11 h).2.2.2.2.1, (F.q11 h).2.2.2.2.2.1, rfl, (F.q11 h).2.2.2.2.2.2.2.1, (F.q11 h).2.2.2.2.2.2.2.2⟩, fun h => ⟨(F.q12 h).1, (F.q12 h).2.1, (F.q12 h).2.2.1, (F.q12 h).2.2.2.1, (F.q12 h).2.2.2.2.1, (F.q12 h).2.2.2.2.2.1, rfl, (F.q12 h).2.2.2.2.2.2.2.1, (F.q12 h).2.2.2.2.2.2.2.2.1, (F.q12 h).2.2.2.2.2.2.2.2.2.1, (F.q12 h).2.2.2.2.2.2.2.2.2.2.1, (F.q12 h).2.2.2.2.2.2.2.2.2.2.2⟩, fun h => ⟨(F.q13 h).1, (F.q13 h).2.1, (F.q13 h).2.2.1, (F.q13 h).2.2.2.1, (F.q13 h).2.2.2.2.1, (F.q13 h).2.2.2.2.2.1, rfl, (F.q13 h).2.2.2.2.2.2.2.1, (F.q13 h).2.2.2.2.2.2.2.2.1, (F.q13 h).2.2.2.2.2.2.2.2.2.1, (F.q13 h).2.2.2.2.2.2.2.2.2.2.1, (F.q13 h).2.2.2.2.2.2.2.2.2.2.2.1, (F.q13 h).2.2.2.2.2.2.2.2.2.2.2.2⟩, F.f0, F.f1, F.f2, F.f3, F.f4, F.f5, fun _ => rfl, F.f7, F.f8, F.f9, F.f10, F.f12, F.st0, F.st1, F.st2, F.st3, F.st4⟩
      clear F
      go_simp
      exact HK.out _ _ ⟨_, _, _, _, _, _, _, _, _, _, _, _, _, _, rfl, HF.out⟩
    · have HF : Hid (wit114F b3 b5 al n cl ar m cr n1 n2 A B S0 S1 S2 S3 S4 (upd d_ 7) x11 x12 x13 x14 x15 x16 x17 (.pointer (some ⟨b3, 1, none⟩)) x19 x20 x21 x22 g1 g2 w1) := ⟨F.q1, F.q3, F.q4, F.q6, fun h => rfl, F.q9, F.q10, F.q11, fun h => ⟨(F.q12 h).1, (F.q12 h).2.1, (F.q12 h).2.2.1, (F.q12 h).2.2.2.1, (F.q12 h).2.2.2.2.1, (F.q12 h).2.2.2.2.2.1, (F.q12 h).2.2.2.2.2.2.1, rfl, (F.q12 h).2.2.2.2.2.2.2.2.1, (F.q12 h).2.2.2.2.2.2.2.2.2.1, (F.q12 h).2.2.2.2.2.2.2.2.2.2.1, (F.q12 h).2.2.2.2.2.2.2.2.2.2.2⟩, fun h => ⟨(F.q13 h).1, (F.q13 h).2.1, (F.q13 h).2.2.1, (F.q13 h).2.2.2.1, (F.q13 h).2.2.2.2.1, (F.q13 h).2.2.2.2.2.1, (F.q13 h).2.2.2.2.2.2.1, rfl, (F.q13 h).2.2.2.2.2.2.2.2.1, (F.q13 h).2.2.2.2.2.2.2.2.2.1, (F.q13 h).2.2.2.2.2.2.2.2.2.2.1, (F.q13 h).2.2.2.2.2.2.2.2.2.2.2.1, (F.q13 h).2.2.2.2.2.2.2.2.2.2.2.2⟩, F.f0, F.f1, F.f2, F.f3, F.f4, F.f5, F.f6, fun _ => rfl, F.f8, F.f9, F.f10, F.f12, F.st0, F.st1, F.st2, F.st3, F.st4⟩
      clear F
      go_simp
      exact HK.out _ _ ⟨_, _, _, _, _, _, _, _, _, _, _, _, _, _, rfl, HF.out⟩
    · have hst : S0 w1 ∨ S1 g1 w1 := by
        cases e1 : d_ 4 with
        | false => exact .inl ((F.st0 e1))
        | true =>
          have n_ : d_ 9 = false := by
            cases e_ : d_ 9 with
            | false => rfl
            | true => have h2 := (F.q9 e_).2.2; rw [show d_ 8 = false from hd_] at h2; cases h2
          exact .inr ((F.st1 e1 n_))
      have kk := kl8.out g1 w1 hst
      clear hst
      obtain rfl := F.f7 (by simp [hdep])
      have HF : Hid (wit114F b3 b5 al n cl ar m cr n1 n2 A B S0 S1 S2 S3 S4 (upd d_ 8) x11 x12 x13 x14 x15 x16 x17 (.pointer (some ⟨b3, 1, none⟩)) (.int .u64 B) x20 x21 x22 g1 g2 w1) := ⟨F.q1, F.q3, F.q4, F.q6, fun _ => (show _ from (by simp [hdep] : d_ 7 = true)), fun h => ⟨(F.q9 h).1, (F.q9 h).2.1, rfl⟩, F.q10, F.q11, fun h => ⟨(F.q12 h).1, (F.q12 h).2.1, (F.q12 h).2.2.1, (F.q12 h).2.2.2.1, (F.q12 h).2.2.2.2.1, (F.q12 h).2.2.2.2.2.1, (F.q12 h).2.2.2.2.2.2.1, (F.q12 h).2.2.2.2.2.2.2.1, rfl, (F.q12 h).2.2.2.2.2.2.2.2.2.1, (F.q12 h).2.2.2.2.2.2.2.2.2.2.1, (F.q12 h).2.2.2.2.2.2.2.2.2.2.2⟩, fun h => ⟨(F.q13 h).1, (F.q13 h).2.1, (F.q13 h).2.2.1, (F.q13 h).2.2.2.1, (F.q13 h).2.2.2.2.1, (F.q13 h).2.2.2.2.2.1, (F.q13 h).2.2.2.2.2.2.1, (F.q13 h).2.2.2.2.2.2.2.1, rfl, (F.q13 h).2.2.2.2.2.2.2.2.2.1, (F.q13 h).2.2.2.2.2.2.2.2.2.2.1, (F.q13 h).2.2.2.2.2.2.2.2.2.2.2.1, (F.q13 h).2.2.2.2.2.2.2.2.2.2.2.2⟩, F.f0, F.f1, F.f2, F.f3, F.f4, F.f5, F.f6, F.f7, fun _ => rfl, F.f9, F.f10, F.f12, F.st0, F.st1, F.st2, F.st3, F.st4⟩
      clear F
      go_simp
      exact HK.out _ _ ⟨_, _, _, _, _, _, _, _, _, _, _, _, _, _, rfl, HF.out⟩
    · have hS := F.st1 (by simp [hdep] : d_ 4 = true) hd_
      obtain rfl := F.f6 (by simp [hdep])
      obtain rfl := F.f8 (by simp [hdep])
      have hc := kc9.out g1 w1 hS
      have HF := Lib.hid F
      clear F
      go_simp
      refine ⟨trivial, rfl, wideAt_calls (hc.mono ?_)⟩
      rintro e w5 ⟨v_, rfl, hres⟩
      exact HK.out _ _ ⟨_, _, _, _, _, _, _, _, _, _, _, _, g1, v_, rfl, ⟨HF.out.q1, HF.out.q3, HF.out.q4, HF.out.q6, HF.out.q8, fun _ => ⟨(show _ from (by simp [hdep] : d_ 4 = true)), (show _ from (by simp [hdep] : d_ 6 = true)), (show _ from (by simp [hdep] : d_ 8 = true))⟩, HF.out.q10, fun h => ⟨(HF.out.q11 h).1, (HF.out.q11 h).2.1, (HF.out.q11 h).2.2.1, (HF.out.q11 h).2.2.2.1, (HF.out.q11 h).2.2.2.2.1, (HF.out.q11 h).2.2.2.2.2.1, (HF.out.q11 h).2.2.2.2.2.2.1, rfl, (HF.out.q11 h).2.2.2.2.2.2.2.2⟩, fun h => ⟨(HF.out.q12 h).1, (HF.out.q12 h).2.1, (HF.out.q12 h).2.2.1, (HF.out.q12 h).2.2.2.1, (HF.out.q12 h).2.2.2.2.1, (HF.out.q12 h).2.2.2.2.2.1, (HF.out.q12 h).2.2.2.2.2.2.1, (HF.out.q12 h).2.2.2.2.2.2.2.1, (HF.out.q12 h).2.2.2.2.2.2.2.2.1, rfl, (HF.out.q12 h).2.2.2.2.2.2.2.2.2.2.1, (HF.out.q12 h).2.2.2.2.2.2.2.2.2.2.2⟩, fun h => ⟨(HF.out.q13 h).1, (HF.out.q13 h).2.1, (HF.out.q13 h).2.2.1, (HF.out.q13 h).2.2.2.1, (HF.out.q13 h).2.2.2.2.1, (HF.out.q13 h).2.2.2.2.2.1, (HF.out.q13 h).2.2.2.2.2.2.1, (HF.out.q13 h).2.2.2.2.2.2.2.1, (HF.out.q13 h).2.2.2.2.2.2.2.2.1, rfl, (HF.out.q13 h).2.2.2.2.2.2.2.2.2.2.1, (HF.out.q13 h).2.2.2.2.2.2.2.2.2.2.2.1, (HF.out.q13 h).2.2.2.2.2.2.2.2.2.2.2.2⟩, HF.out.f0, HF.out.f1, HF.out.f2, HF.out.f3, HF.out.f4, HF.out.f5, HF.out.f6, HF.out.f7, HF.out.f8, fun _ => rfl, HF.out.f10, HF.out.f12, fun h => (by have h2 : d_ 4 = false := h; rw [(by simp [hdep] : d_ 4 = true)] at h2; cases h2), fun _ h => (by simp [upd] at h), fun _ _ => hres, fun h _ => (by have h2 : d_ 9 = true := (HF.out.q11 h).2.2.2.2.2.2.2.1; rw [show d_ 9 = false from hd_] at h2; cases h2), fun h => (by have h2 : d_ 9 = true := (HF.out.q13 h).2.2.2.2.2.2.2.2.2.1; rw [show d_ 9 = false from hd_] at h2; cases h2)⟩⟩
    · have HF : Hid (wit114F b3 b5 al n cl ar m cr n1 n2 A B S0 S1 S2 S3 S4 (upd d_ 10) x11 x12 x13 x14 x15 x16 x17 x18 x19 x20 (.pointer (some ⟨b5, 0, none⟩)) x22 g1 g2 w1) := ⟨F.q1, F.q3, F.q4, F.q6, F.q8, F.q9, fun _ => ⟨(show _ from (by simp [hdep] : d_ 0 = true)), (show _ from (by simp [hdep] : d_ 1 = true)), (show _ from (by simp [hdep] : d_ 2 = true)), (show _ from (by simp [hdep] : d_ 3 = true)), (show _ from (by simp [hdep] : d_ 4 = true)), (show _ from (by simp [hdep] : d_ 5 = true)), (show _ from (by simp [hdep] : d_ 6 = true))⟩, fun h => ⟨(F.q11 h).1, (F.q11 h).2.1, (F.q11 h).2.2.1, (F.q11 h).2.2.2.1, (F.q11 h).2.2.2.2.1, (F.q11 h).2.2.2.2.2.1, (F.q11 h).2.2.2.2.2.2.1, (F.q11 h).2.2.2.2.2.2.2.1, rfl⟩, fun h => ⟨(F.q12 h).1, (F.q12 h).2.1, (F.q12 h).2.2.1, (F.q12 h).2.2.2.1, (F.q12 h).2.2.2.2.1, (F.q12 h).2.2.2.2.2.1, (F.q12 h).2.2.2.2.2.2.1, (F.q12 h).2.2.2.2.2.2.2.1, (F.q12 h).2.2.2.2.2.2.2.2.1, (F.q12 h).2.2.2.2.2.2.2.2.2.1, rfl, (F.q12 h).2.2.2.2.2.2.2.2.2.2.2⟩, fun h => ⟨(F.q13 h).1, (F.q13 h).2.1, (F.q13 h).2.2.1, (F.q13 h).2.2.2.1, (F.q13 h).2.2.2.2.1, (F.q13 h).2.2.2.2.2.1, (F.q13 h).2.2.2.2.2.2.1, (F.q13 h).2.2.2.2.2.2.2.1, (F.q13 h).2.2.2.2.2.2.2.2.1, (F.q13 h).2.2.2.2.2.2.2.2.2.1, rfl, (F.q13 h).2.2.2.2.2.2.2.2.2.2.2.1, (F.q13 h).2.2.2.2.2.2.2.2.2.2.2.2⟩, F.f0, F.f1, F.f2, F.f3, F.f4, F.f5, F.f6, F.f7, F.f8, F.f9, fun _ => rfl, F.f12, F.st0, F.st1, F.st2, F.st3, F.st4⟩
      clear F
      go_simp
      exact HK.out _ _ ⟨_, _, _, _, _, _, _, _, _, _, _, _, _, _, rfl, HF.out⟩
    · have hS := F.st2 (by simp [hdep] : d_ 9 = true) hd_
      obtain rfl := F.f4 (by simp [hdep])
      obtain rfl := F.f10 (by simp [hdep])
      obtain ⟨⟨ku0, kcell0⟩, kfr0, hres⟩ := kc11.out g1 g2 w1 hS
      have HF : Hid (wit114F b3 b5 al n cl ar m cr n1 n2 A B S0 S1 S2 S3 S4 (upd d_ 11) x11 x12 x13 x14 (.slice g1.1 n1 g1.2) x16 x17 x18 x19 x20 (.pointer (some ⟨b5, 0, none⟩)) x22 g1 g2 (w1.setCell ⟨b5, 0, none⟩ (.slice g1.1 n1 g1.2))) := ⟨F.q1, F.q3, F.q4, F.q6, F.q8, F.q9, F.q10, fun _ => ⟨(show _ from (by simp [hdep] : d_ 0 = true)), (show _ from (by simp [hdep] : d_ 1 = true)), (show _ from (by simp [hdep] : d_ 2 = true)), (show _ from (by simp [hdep] : d_ 3 = true)), (show _ from (by simp [hdep] : d_ 4 = true)), (show _ from (by simp [hdep] : d_ 5 = true)), (show _ from (by simp [hdep] : d_ 6 = true)), (show _ from (by simp [hdep] : d_ 9 = true)), (show _ from (by simp [hdep] : d_ 10 = true))⟩, fun h => ⟨(F.q12 h).1, (F.q12 h).2.1, (F.q12 h).2.2.1, (F.q12 h).2.2.2.1, (F.q12 h).2.2.2.2.1, (F.q12 h).2.2.2.2.2.1, (F.q12 h).2.2.2.2.2.2.1, (F.q12 h).2.2.2.2.2.2.2.1, (F.q12 h).2.2.2.2.2.2.2.2.1, (F.q12 h).2.2.2.2.2.2.2.2.2.1, (F.q12 h).2.2.2.2.2.2.2.2.2.2.1, rfl⟩, fun h => ⟨(F.q13 h).1, (F.q13 h).2.1, (F.q13 h).2.2.1, (F.q13 h).2.2.2.1, (F.q13 h).2.2.2.2.1, (F.q13 h).2.2.2.2.2.1, (F.q13 h).2.2.2.2.2.2.1, (F.q13 h).2.2.2.2.2.2.2.1, (F.q13 h).2.2.2.2.2.2.2.2.1, (F.q13 h).2.2.2.2.2.2.2.2.2.1, (F.q13 h).2.2.2.2.2.2.2.2.2.2.1, rfl, (F.q13 h).2.2.2.2.2.2.2.2.2.2.2.2⟩, F.f0, F.f1, F.f2, F.f3, F.f4, F.f5, F.f6, F.f7, F.f8, F.f9, F.f10, F.f12, fun h => (by have h2 : d_ 4 = false := h; rw [(by simp [hdep] : d_ 4 = true)] at h2; cases h2), fun _ h => (by have h2 : d_ 9 = false := h; rw [(by simp [hdep] : d_ 9 = true)] at h2; cases h2), fun _ h => (by simp [upd] at h), fun _ _ => hres, fun h => (by have h2 : d_ 11 = true := (F.q13 h).2.2.2.2.2.2.2.2.2.2.2.1; rw [show d_ 11 = false from hd_] at h2; cases h2)⟩
      clear F hS hres
      go_simp
      exact HK.out _ _ ⟨_, _, _, _, _, _, _, _, _, _, _, _, _, _, rfl, HF.out⟩
    · have HF : Hid (wit114F b3 b5 al n cl ar m cr n1 n2 A B S0 S1 S2 S3 S4 (upd d_ 12) x11 x12 x13 x14 x15 x16 x17 x18 x19 x20 x21 (.pointer (some ⟨b5, 1, none⟩)) g1 g2 w1) := ⟨F.q1, F.q3, F.q4, F.q6, F.q8, F.q9, F.q10, F.q11, fun _ => ⟨(show _ from (by simp [hdep] : d_ 0 = true)), (show _ from (by simp [hdep] : d_ 1 = true)), (show _ from (by simp [hdep] : d_ 2 = true)), (show _ from (by simp [hdep] : d_ 3 = true)), (show _ from (by simp [hdep] : d_ 4 = true)), (show _ from (by simp [hdep] : d_ 5 = true)), (show _ from (by simp [hdep] : d_ 6 = true)), (show _ from (by simp [hdep] : d_ 7 = true)), (show _ from (by simp [hdep] : d_ 8 = true)), (show _ from (by simp [hdep] : d_ 9 = true)), (show _ from (by simp [hdep] : d_ 10 = true)), (show _ from (by simp [hdep] : d_ 11 = true))⟩, fun h => ⟨(F.q13 h).1, (F.q13 h).2.1, (F.q13 h).2.2.1, (F.q13 h).2.2.2.1, (F.q13 h).2.2.2.2.1, (F.q13 h).2.2.2.2.2.1, (F.q13 h).2.2.2.2.2.2.1, (F.q13 h).2.2.2.2.2.2.2.1, (F.q13 h).2.2.2.2.2.2.2.2.1, (F.q13 h).2.2.2.2.2.2.2.2.2.1, (F.q13 h).2.2.2.2.2.2.2.2.2.2.1, (F.q13 h).2.2.2.2.2.2.2.2.2.2.2.1, rfl⟩, F.f0, F.f1, F.f2, F.f3, F.f4, F.f5, F.f6, F.f7, F.f8, F.f9, F.f10, fun _ => rfl, F.st0, F.st1, F.st2, F.st3, F.st4⟩
      clear F
      go_simp
      exact HK.out _ _ ⟨_, _, _, _, _, _, _, _, _, _, _, _, _, _, rfl, HF.out⟩
    · have hS := F.st3 (by simp [hdep] : d_ 11 = true) hd_
      obtain rfl := F.f9 (by simp [hdep])
      obtain rfl := F.f12 (by simp [hdep])
      obtain ⟨⟨ku0, kcell0⟩, kfr0, hres⟩ := kc13.out g1 g2 w1 hS
      have HF : Hid (wit114F b3 b5 al n cl ar m cr n1 n2 A B S0 S1 S2 S3 S4 (upd d_ 13) x11 x12 x13 x14 x15 x16 x17 x18 x19 (.slice g2.1 n2 g2.2) x21 (.pointer (some ⟨b5, 1, none⟩)) g1 g2 (w1.setCell ⟨b5, 1, none⟩ (.slice g2.1 n2 g2.2))) := ⟨F.q1, F.q3, F.q4, F.q6, F.q8, F.q9, F.q10, F.q11, F.q12, fun _ => ⟨(show _ from (by simp [hdep] : d_ 0 = true)), (show _ from (by simp [hdep] : d_ 1 = true)), (show _ from (by simp [hdep] : d_ 2 = true)), (show _ from (by simp [hdep] : d_ 3 = true)), (show _ from (by simp [hdep] : d_ 4 = true)), (show _ from (by simp [hdep] : d_ 5 = true)), (show _ from (by simp [hdep] : d_ 6 = true)), (show _ from (by simp [hdep] : d_ 7 = true)), (show _ from (by simp [hdep] : d_ 8 = true)), (show _ from (by simp [hdep] : d_ 9 = true)), (show _ from (by simp [hdep] : d_ 10 = true)), (show _ from (by simp [hdep] : d_ 11 = true)), (show _ from (by simp [hdep] : d_ 12 = true))⟩, F.f0, F.f1, F.f2, F.f3, F.f4, F.f5, F.f6, F.f7, F.f8, F.f9, F.f10, F.f12, fun h => (by have h2 : d_ 4 = false := h; rw [(by simp [hdep] : d_ 4 = true)] at h2; cases h2), fun _ h => (by have h2 : d_ 9 = false := h; rw [(by simp [hdep] : d_ 9 = true)] at h2; cases h2), fun _ h => (by have h2 : d_ 11 = false := h; rw [(by simp [hdep] : d_ 11 = true)] at h2; cases h2), fun _ h => (by simp [upd] at h), fun _ => hres⟩
      clear F hS hres
      go_simp
      exact HK.out _ _ ⟨_, _, _, _, _, _, _, _, _, _, _, _, _, _, rfl, HF.out⟩
  · rintro d_ a_ w1 hall ⟨x11, x12, x13, x14, x15, x16, x17, x18, x19, x20, x21, x22, g1, g2, rfl, F⟩
    have hall' : ∀ k, k < 14 → d_ k = true := hall
    obtain rfl := F.f0 (hall' 0 (by decide))
    obtain rfl := F.f1 (hall' 1 (by decide))
    obtain rfl := F.f2 (hall' 2 (by decide))
    obtain rfl := F.f3 (hall' 3 (by decide))
    obtain rfl := F.f4 (hall' 4 (by decide))
    obtain rfl := F.f5 (hall' 5 (by decide))
    obtain rfl := F.f6 (hall' 6 (by decide))
    obtain rfl := F.f7 (hall' 7 (by decide))
    obtain rfl := F.f8 (hall' 8 (by decide))
    obtain rfl := F.f9 (hall' 9 (by decide))
    obtain rfl := F.f10 (hall' 10 (by decide))
    obtain rfl := F.f12 (hall' 12 (by decide))
    have hst := F.st4 (hall' 13 (by decide))
    exact HQ.out g1 g2 w1 hst
theorem wo_lens (r : Rws) (c : Nat × Nat) : (r.wo c).left.length ≤ r.left.length ∧ (r.wo c).right.length ≤ r.right.length := by
  refine ⟨?_, ?_⟩
  · show (keptL r.left c.1).length ≤ _
    unfold keptL; rw [List.length_map]; exact keptI_len _ _
  · show (keptL r.right c.2).length ≤ _
    unfold keptL; rw [List.length_map]; exact keptI_len _ _
set_option maxRecDepth 100000 in
set_option maxHeartbeats 8000000 in
theorem without22 {r : Rws} {al ar : Option Addr} {cl cr : Nat} {c : Nat × Nat} {w : World} (hc : c.1 < 1024 ∧ c.2 < 1024) (l1 : r.left.length ≤ 10) (l2 : r.right.length ≤ 10) (h1 : IsMks w al r.left) (h2 : IsMks w ar r.right) :
    Calls Tryd.prog 22 #[r.v al cl ar cr, .int .i64 c.1, .int .i64 c.2] w fun e w' => ∃ q p : Option Addr × Nat, e = .returned ((r.wo c).v q.1 q.2 p.1 p.2) ∧ IsMks w' q.1 (r.wo c).left ∧ IsMks w' p.1 (r.wo c).right ∧ Below w.heap.size w w' := by
  obtain ⟨x0, x1, x2⟩ := alloc2 w (r.arr al cl ar cr) ((.slice none 0 0 : Value) :: .slice none 0 0 :: .int .i64 0 :: .int .i64 0 :: .int .i64 0 :: [] : List Value).toArray 26 26
  have HX := Lib.hid (And.intro x0 (And.intro x1 (And.intro x2 (And.intro (h1.mono x2) (h2.mono x2)))))
  have HC := Lib.hid (And.intro hc (And.intro l1 l2))
  clear x0 x1 x2 hc l1 l2 h1 h2
  go_enter Tryd.func22, Tryd.ntmps22
  refine wp_seq_hid ?_
  intro K0 HK0
  go_wp2_with fail
  refine HK0.out _ _ ?_
  clear HK0 K0
  revert HX
  generalize ((w.alloc (.cells (r.arr al cl ar cr) 26)).alloc (.cells _ 26)) = w1
  generalize hb6 : w.heap.size + 1 = b6
  generalize hb3 : w.heap.size = b3
  intro HX
  have HL := Lib.hid (And.intro hb6 hb3)
  clear hb6 hb3
  refine wp_seq_hid ?_
  intro K1 HK1
  refine wpIn_wide.1 (wit22 (bx := b3) (al := al) (n := r.left.length) (cl := cl) (ar := ar) (m := r.right.length) (cr := cr) (n1 := (r.wo c).left.length) (n2 := (r.wo c).right.length) (A := c.1) (B := c.2)
    (S0 := fun v => Below w1.heap.size w1 v) (S1 := fun g v => Below w1.heap.size w1 v ∧ IsMks v g.1 (r.wo c).left ∧ (∀ ad, g.1 = some ad → w1.heap.size ≤ ad.block)) (S2 := fun g p v => Below w1.heap.size w1 v ∧ IsMks v g.1 (r.wo c).left ∧ IsMks v p.1 (r.wo c).right ∧ (∀ ad, g.1 = some ad → w1.heap.size ≤ ad.block) ∧ (∀ ad, p.1 = some ad → w1.heap.size ≤ ad.block))
    (S3 := fun g p v => ∃ v0, Below w1.heap.size w1 v0 ∧ IsMks v0 g.1 (r.wo c).left ∧ IsMks v0 p.1 (r.wo c).right ∧ ((∀ ad, g.1 = some ad → w1.heap.size ≤ ad.block) ∧ (∀ ad, p.1 = some ad → w1.heap.size ≤ ad.block)) ∧ v = v0.setCell ⟨b3, 0, none⟩ (.slice g.1 (r.wo c).left.length g.2))
    (S4 := fun g p v => ∃ v0, Below w1.heap.size w1 v0 ∧ IsMks v0 g.1 (r.wo c).left ∧ IsMks v0 p.1 (r.wo c).right ∧ ((∀ ad, g.1 = some ad → w1.heap.size ≤ ad.block) ∧ (∀ ad, p.1 = some ad → w1.heap.size ≤ ad.block)) ∧ v = (v0.setCell ⟨b3, 0, none⟩ (.slice g.1 (r.wo c).left.length g.2)).setCell ⟨b3, 1, none⟩ (.slice p.1 (r.wo c).right.length p.2)) (Below.refl _ w1).drew ?l1 ?c3 ?l5 ?c7 ?s9 ?s11 ?hQ)
  case l1 => exact fun v h => (cell_of_heap (((by simpa using h : Below w1.heap.size w1 v).block _ (heap_lt HX.out.1)).trans HX.out.1)).trans rfl
  case l5 => exact fun g v h => (cell_of_heap (((h.elim id And.left : Below w1.heap.size w1 v).block _ (heap_lt HX.out.1)).trans HX.out.1)).trans rfl
  case c3 => exact fun v h => (without63 HC.out.2.1 HC.out.1.1 (HX.out.2.2.2.1.mono h)).mono (fun e w' ⟨q, he, hq, hlo, hb⟩ => ⟨q, he, h.trans (hb.mono h.size), hq, fun ad e => Nat.le_trans h.size (hlo ad e)⟩)
  case c7 => exact fun g v h => (without63 HC.out.2.2 HC.out.1.2 (HX.out.2.2.2.2.mono h.1)).mono (fun e w' ⟨q, he, hq, hlo, hb⟩ => ⟨q, he, h.1.trans (hb.mono h.1.size), h.2.1.mono hb, hq, h.2.2, fun ad e => Nat.le_trans h.1.size (hlo ad e)⟩)
  case s9 => exact fun g p v h => ⟨⟨_, (cell_of_heap ((h.1.block _ (heap_lt HX.out.1)).trans HX.out.1)).trans rfl⟩, frozen_of_heap ((h.1.block _ (heap_lt HX.out.1)).trans HX.out.1), v, h.1, h.2.1, h.2.2.1, h.2.2.2, rfl⟩
  case s11 =>
    rintro g p v ⟨v0, hb, hg, hp, hlo, rfl⟩
    have hx := heap_setCell_at (k := 0) ((hb.block _ (heap_lt HX.out.1)).trans HX.out.1) (.slice g.1 (r.wo c).left.length g.2)
    exact ⟨⟨_, (cell_of_heap hx).trans rfl⟩, frozen_of_heap hx, v0, hb, hg, hp, hlo, rfl⟩
  rintro g p w' ⟨v0, hb, hg, hp, hlo, rfl⟩
  refine HK1.out _ _ ?_
  clear HK1 K1
  have k3 := (hb.block _ (heap_lt HX.out.1)).trans HX.out.1
  have k6 := (hb.block _ (heap_lt HX.out.2.1)).trans HX.out.2.1
  have hx0 := heap_setCell_at (k := 0) k3 (.slice g.1 (r.wo c).left.length g.2)
  have hx1 := heap_setCell_at (k := 1) hx0 (.slice p.1 (r.wo c).right.length p.2)
  have hne : b6 ≠ b3 := by have := HL.out.1; have := HL.out.2; omega
  have HZ : Hid (((v0.setCell ⟨b3, 0, none⟩ (.slice g.1 (r.wo c).left.length g.2)).setCell ⟨b3, 1, none⟩ (.slice p.1 (r.wo c).right.length p.2)).heap[b3]? = some (.cells ((r.wo c).arr g.1 g.2 p.1 p.2) 26 (0, 0)) ∧ ((v0.setCell ⟨b3, 0, none⟩ (.slice g.1 (r.wo c).left.length g.2)).setCell ⟨b3, 1, none⟩ (.slice p.1 (r.wo c).right.length p.2)).heap[b6]? = some (.cells #[.slice none 0 0, .slice none 0 0, .int .i64 0, .int .i64 0, .int .i64 0] 26 (0, 0)) ∧
      Below w.heap.size w ((v0.setCell ⟨b3, 0, none⟩ (.slice g.1 (r.wo c).left.length g.2)).setCell ⟨b3, 1, none⟩ (.slice p.1 (r.wo c).right.length p.2)) ∧ IsMks ((v0.setCell ⟨b3, 0, none⟩ (.slice g.1 (r.wo c).left.length g.2)).setCell ⟨b3, 1, none⟩ (.slice p.1 (r.wo c).right.length p.2)) g.1 (r.wo c).left ∧ IsMks ((v0.setCell ⟨b3, 0, none⟩ (.slice g.1 (r.wo c).left.length g.2)).setCell ⟨b3, 1, none⟩ (.slice p.1 (r.wo c).right.length p.2)) p.1 (r.wo c).right) := by
    have h3 := HL.out.2
    have hbw : Below b3 w v0 := HX.out.2.2.1.trans (hb.mono (by have := heap_lt HX.out.1; omega))
    refine ⟨hx1.trans rfl, ?_, ?_, ?_, ?_⟩
    · rw [Below.heap_setCell _ _ _ _ hne, Below.heap_setCell _ _ _ _ hne]; exact k6
    · rw [h3]
      exact (hbw.setCell (p := ⟨b3, 0, none⟩) (Nat.le_refl _) _).setCell (p := ⟨b3, 1, none⟩) (Nat.le_refl _) _
    · exact (hg.setCell (fun ad e => Nat.lt_of_lt_of_le (heap_lt HX.out.1) (hlo.1 ad e))).setCell (fun ad e => Nat.lt_of_lt_of_le (heap_lt HX.out.1) (hlo.1 ad e))
    · exact (hp.setCell (fun ad e => Nat.lt_of_lt_of_le (heap_lt HX.out.1) (hlo.2 ad e))).setCell (fun ad e => Nat.lt_of_lt_of_le (heap_lt HX.out.1) (hlo.2 ad e))
  have hlg : ∀ ad, g.1 = some ad → b6 < ad.block := fun ad e => Nat.lt_of_lt_of_le (heap_lt HX.out.2.1) (hlo.1 ad e)
  have hlp : ∀ ad, p.1 = some ad → b6 < ad.block := fun ad e => Nat.lt_of_lt_of_le (heap_lt HX.out.2.1) (hlo.2 ad e)
  have HLP := Lib.hid (And.intro hlg hlp)
  clear hlg hlp
  clear k3 k6 hx0 hx1
  revert HZ
  generalize (v0.setCell ⟨b3, 0, none⟩ (.slice g.1 (r.wo c).left.length g.2)).setCell ⟨b3, 1, none⟩ (.slice p.1 (r.wo c).right.length p.2) = w2
  intro HZ
  have m0 : w2.cell? ⟨b3, 0, none⟩ = some (.slice g.1 (r.wo c).left.length g.2) := by rw [cell_of_heap HZ.out.1]; rfl
  have m1 : w2.cell? ⟨b3, 1, none⟩ = some (.slice p.1 (r.wo c).right.length p.2) := by rw [cell_of_heap HZ.out.1]; rfl
  have m2 : w2.cell? ⟨b3, 2, none⟩ = some (.int .i64 r.shift.lo) := by rw [cell_of_heap HZ.out.1]; rfl
  have m3 : w2.cell? ⟨b3, 3, none⟩ = some (.int .i64 r.shift.hi) := by rw [cell_of_heap HZ.out.1]; rfl
  have m4 : w2.cell? ⟨b3, 4, none⟩ = some (.int .i64 r.hidden) := by rw [cell_of_heap HZ.out.1]; rfl
  have n0 : w2.cell? ⟨b6, 0, none⟩ = some (.slice none 0 0) := by rw [cell_of_heap HZ.out.2.1]; rfl
  have n1 : w2.cell? ⟨b6, 1, none⟩ = some (.slice none 0 0) := by rw [cell_of_heap HZ.out.2.1]; rfl
  have n2 : w2.cell? ⟨b6, 2, none⟩ = some (.int .i64 0) := by rw [cell_of_heap HZ.out.2.1]; rfl
  have n3 : w2.cell? ⟨b6, 3, none⟩ = some (.int .i64 0) := by rw [cell_of_heap HZ.out.2.1]; rfl
  have n4 : w2.cell? ⟨b6, 4, none⟩ = some (.int .i64 0) := by rw [cell_of_heap HZ.out.2.1]; rfl
  have f6 : ∀ k, w2.frozen? ⟨b6, k, none⟩ = false := fun k => frozen_of_heap HZ.out.2.1
  go_wp2_with fail
  obtain ⟨z1, z2, z3⟩ := put5 (.slice g.1 (r.wo c).left.length g.2) (.slice p.1 (r.wo c).right.length p.2) (.int .i64 r.shift.lo) (.int .i64 r.shift.hi) (.int .i64 r.hidden) HZ.out.2.1
  have hb3 := HL.out.2
  have hb6 := HL.out.1
  have hsz := HZ.out.2.2.1.size
  refine bodyPost_ret (v := (r.wo c).v g.1 g.2 p.1 p.2) (res_c26 rfl _ rfl z1) rfl ⟨g, p, rfl, z3 _ _ HZ.out.2.2.2.1 HLP.out.1, z3 _ _ HZ.out.2.2.2.2 HLP.out.2, ?_⟩
  rw [hb3] at hsz
  have hzz := HZ.out.2.2.1
  rw [hb3] at hzz
  exact hzz.trans (z2.below hsz (fun k hk e => by omega))
end Go.Proofs.YtbnhngfegnhaiaaDoor
namespace Go.Proofs.YtbnhngfegnhaiaaDoor
open Go.RowKit
set_option linter.unusedVariables false
set_option linter.unusedSimpArgs false
/-- A canvas: its rows, how many marks may have been painted, and what is known of its cases. -/
abbrev Rws.cnv (r : Rws) (p : Int) (al : Option Addr) (cl : Nat) (ar : Option Addr) (cr mb : Nat) : Array Value := #[.slice al r.left.length cl, .slice ar r.right.length cr, .int .i64 r.shift.lo, .int .i64 r.shift.hi, .int .i64 r.hidden, .int .i64 p, .map (some mb)]
structure CanC (r : Rws) (p : Int) (al : Option Addr) (cl : Nat) (ar : Option Addr) (cr mb cb : Nat) (w : World) : Prop where
  h : w.heap[cb]? = some (.cells (r.cnv p al cl ar cr mb) 157 (0, 0))
  ml : IsMks w al r.left
  mr : IsMks w ar r.right
theorem CanC.mono {r : Rws} {p : Int} {al ar : Option Addr} {cl cr mb cb : Nat} {w w' : World} (h : CanC r p al cl ar cr mb cb w) (hb : Below w.heap.size w w') : CanC r p al cl ar cr mb cb w' :=
  ⟨(hb.block _ (heap_lt h.h)).trans h.h, h.ml.mono hb, h.mr.mono hb⟩
set_option maxRecDepth 100000 in
set_option maxHeartbeats 8000000 in
theorem without114 {r : Rws} {p : Int} {al ar : Option Addr} {cl cr mb cb : Nat} {c : Nat × Nat} {w : World} (hc : c.1 < 1024 ∧ c.2 < 1024) (l1 : r.left.length ≤ 10) (l2 : r.right.length ≤ 10) (hC : CanC r p al cl ar cr mb cb w) :
    Calls Tryd.prog 114 #[.pointer (some ⟨cb, 0, none⟩), setV c] w fun e w' => ∃ q z : Option Addr × Nat, e = .returned ((r.wo c).v q.1 q.2 z.1 z.2) ∧ IsMks w' q.1 (r.wo c).left ∧ IsMks w' z.1 (r.wo c).right ∧ Below w.heap.size w w' := by
  obtain ⟨x0, x1, x2⟩ := alloc2 w #[.int .u64 c.1, .int .u64 c.2] ((.slice none 0 0 : Value) :: .slice none 0 0 :: .int .i64 0 :: .int .i64 0 :: .int .i64 0 :: [] : List Value).toArray 106 26
  have HX := Lib.hid (And.intro x0 (And.intro x1 (And.intro x2 (hC.mono x2))))
  have HC := Lib.hid (And.intro hc (And.intro l1 l2))
  clear x0 x1 x2 hc l1 l2 hC
  go_enter Tryd.func114, Tryd.ntmps114
  refine wp_seq_hid ?_
  intro K0 HK0
  go_wp2_with fail
  refine HK0.out _ _ ?_
  clear HK0 K0
  revert HX
  generalize ((w.alloc (.cells _ 106)).alloc (.cells _ 26)) = w0
  generalize hb4 : w.heap.size + 1 = b4
  generalize hb3 : w.heap.size = b3
  intro HX
  have HL := Lib.hid (And.intro hb4 hb3)
  clear hb4 hb3
  have m0 : w0.cell? ⟨cb, 0, none⟩ = some (.slice al r.left.length cl) := by rw [cell_of_heap HX.out.2.2.2.h]; rfl
  have m1 : w0.cell? ⟨cb, 1, none⟩ = some (.slice ar r.right.length cr) := by rw [cell_of_heap HX.out.2.2.2.h]; rfl
  have m2 : w0.cell? ⟨cb, 2, none⟩ = some (.int .i64 r.shift.lo) := by rw [cell_of_heap HX.out.2.2.2.h]; rfl
  have m3 : w0.cell? ⟨cb, 3, none⟩ = some (.int .i64 r.shift.hi) := by rw [cell_of_heap HX.out.2.2.2.h]; rfl
  have m4 : w0.cell? ⟨cb, 4, none⟩ = some (.int .i64 r.hidden) := by rw [cell_of_heap HX.out.2.2.2.h]; rfl
  have HW : Hid ((w0.alloc (.cells (r.arr al cl ar cr) 26)).heap[w0.heap.size]? = some (.cells (r.arr al cl ar cr) 26 (0, 0)) ∧ (w0.alloc (.cells (r.arr al cl ar cr) 26)).heap[b3]? = some (.cells #[.int .u64 c.1, .int .u64 c.2] 106 (0, 0)) ∧ (w0.alloc (.cells (r.arr al cl ar cr) 26)).heap[b4]? = some (.cells #[.slice none 0 0, .slice none 0 0, .int .i64 0, .int .i64 0, .int .i64 0] 26 (0, 0)) ∧
      Below b3 w (w0.alloc (.cells (r.arr al cl ar cr) 26)) ∧ IsMks (w0.alloc (.cells (r.arr al cl ar cr) 26)) al r.left ∧ IsMks (w0.alloc (.cells (r.arr al cl ar cr) 26)) ar r.right ∧ w0.heap.size ≠ b4 ∧ b3 ≤ w0.heap.size) := by
    have k3 := heap_lt HX.out.1
    have k4 := heap_lt HX.out.2.1
    exact ⟨World.alloc_heap_new _ _, (Below.heap_alloc w0 _ _ k3).trans HX.out.1, (Below.heap_alloc w0 _ _ k4).trans HX.out.2.1, HX.out.2.2.1.trans ((alloc_below w0 _).mono (by omega)), HX.out.2.2.2.ml.mono (alloc_below w0 _), HX.out.2.2.2.mr.mono (alloc_below w0 _), by omega, by omega⟩
  refine wp_seq_hid ?_
  intro Ka HKa
  go_wp2_with fail
  refine HKa.out _ _ ?_
  clear HKa Ka m0 m1 m2 m3 m4 HX
  revert HW
  generalize w0.alloc (.cells (r.arr al cl ar cr) 26) = w1
  generalize w0.heap.size = b5
  intro HW
  refine wp_seq_hid ?_
  intro K1 HK1
  refine wpIn_wide.1 (wit114 (b3 := b3) (b5 := b5) (al := al) (n := r.left.length) (cl := cl) (ar := ar) (m := r.right.length) (cr := cr) (n1 := (r.wo c).left.length) (n2 := (r.wo c).right.length) (A := c.1) (B := c.2)
    (S0 := fun v => Below w1.heap.size w1 v) (S1 := fun g v => Below w1.heap.size w1 v ∧ IsMks v g.1 (r.wo c).left ∧ (∀ ad, g.1 = some ad → w1.heap.size ≤ ad.block)) (S2 := fun g p v => Below w1.heap.size w1 v ∧ IsMks v g.1 (r.wo c).left ∧ IsMks v p.1 (r.wo c).right ∧ (∀ ad, g.1 = some ad → w1.heap.size ≤ ad.block) ∧ (∀ ad, p.1 = some ad → w1.heap.size ≤ ad.block))
    (S3 := fun g p v => ∃ v0, Below w1.heap.size w1 v0 ∧ IsMks v0 g.1 (r.wo c).left ∧ IsMks v0 p.1 (r.wo c).right ∧ ((∀ ad, g.1 = some ad → w1.heap.size ≤ ad.block) ∧ (∀ ad, p.1 = some ad → w1.heap.size ≤ ad.block)) ∧ v = v0.setCell ⟨b5, 0, none⟩ (.slice g.1 (r.wo c).left.length g.2))
    (S4 := fun g p v => ∃ v0, Below w1.heap.size w1 v0 ∧ IsMks v0 g.1 (r.wo c).left ∧ IsMks v0 p.1 (r.wo c).right ∧ ((∀ ad, g.1 = some ad → w1.heap.size ≤ ad.block) ∧ (∀ ad, p.1 = some ad → w1.heap.size ≤ ad.block)) ∧ v = (v0.setCell ⟨b5, 0, none⟩ (.slice g.1 (r.wo c).left.length g.2)).setCell ⟨b5, 1, none⟩ (.slice p.1 (r.wo c).right.length p.2)) (Below.refl _ w1).drew ?l1 ?l3 ?c4 ?l6 ?l8 ?c9 ?s11 ?s13 ?hQ)
  case l1 => exact fun v h => (cell_of_heap (((by simpa using h : Below w1.heap.size w1 v).block _ (heap_lt HW.out.1)).trans HW.out.1)).trans rfl
  case l6 => exact fun g v h => (cell_of_heap (((h.elim id And.left : Below w1.heap.size w1 v).block _ (heap_lt HW.out.1)).trans HW.out.1)).trans rfl
  case l3 => exact fun v h => (cell_of_heap (((by simpa using h : Below w1.heap.size w1 v).block _ (heap_lt HW.out.2.1)).trans HW.out.2.1)).trans rfl
  case l8 => exact fun g v h => (cell_of_heap (((h.elim id And.left : Below w1.heap.size w1 v).block _ (heap_lt HW.out.2.1)).trans HW.out.2.1)).trans rfl
  case c4 => exact fun v h => (kept117 HC.out.2.1 HC.out.1.1 (HW.out.2.2.2.2.1.mono h)).mono (fun e w' ⟨q, he, hq, hlo, hb⟩ => ⟨q, he, h.trans (hb.mono h.size), hq, fun ad e => Nat.le_trans h.size (hlo ad e)⟩)
  case c9 => exact fun g v h => (kept117 HC.out.2.2 HC.out.1.2 (HW.out.2.2.2.2.2.1.mono h.1)).mono (fun e w' ⟨q, he, hq, hlo, hb⟩ => ⟨q, he, h.1.trans (hb.mono h.1.size), h.2.1.mono hb, hq, h.2.2, fun ad e => Nat.le_trans h.1.size (hlo ad e)⟩)
  case s11 => exact fun g p v h => ⟨⟨_, (cell_of_heap ((h.1.block _ (heap_lt HW.out.1)).trans HW.out.1)).trans rfl⟩, frozen_of_heap ((h.1.block _ (heap_lt HW.out.1)).trans HW.out.1), v, h.1, h.2.1, h.2.2.1, h.2.2.2, rfl⟩
  case s13 =>
    rintro g p v ⟨v0, hb, hg, hp, hlo, rfl⟩
    have hx := heap_setCell_at (k := 0) ((hb.block _ (heap_lt HW.out.1)).trans HW.out.1) (.slice g.1 (r.wo c).left.length g.2)
    exact ⟨⟨_, (cell_of_heap hx).trans rfl⟩, frozen_of_heap hx, v0, hb, hg, hp, hlo, rfl⟩
  rintro g z w' ⟨v0, hb, hg, hp, hlo, rfl⟩
  refine HK1.out _ _ ?_
  clear HK1 K1
  have k3 := (hb.block _ (heap_lt HW.out.1)).trans HW.out.1
  have k6 := (hb.block _ (heap_lt HW.out.2.2.1)).trans HW.out.2.2.1
  have hx0 := heap_setCell_at (k := 0) k3 (.slice g.1 (r.wo c).left.length g.2)
  have hx1 := heap_setCell_at (k := 1) hx0 (.slice z.1 (r.wo c).right.length z.2)
  have hne : b4 ≠ b5 := fun e => HW.out.2.2.2.2.2.2.1 e.symm
  have hb5 : b3 ≤ b5 := HW.out.2.2.2.2.2.2.2
  have HZ : Hid (((v0.setCell ⟨b5, 0, none⟩ (.slice g.1 (r.wo c).left.length g.2)).setCell ⟨b5, 1, none⟩ (.slice z.1 (r.wo c).right.length z.2)).heap[b5]? = some (.cells ((r.wo c).arr g.1 g.2 z.1 z.2) 26 (0, 0)) ∧ ((v0.setCell ⟨b5, 0, none⟩ (.slice g.1 (r.wo c).left.length g.2)).setCell ⟨b5, 1, none⟩ (.slice z.1 (r.wo c).right.length z.2)).heap[b4]? = some (.cells #[.slice none 0 0, .slice none 0 0, .int .i64 0, .int .i64 0, .int .i64 0] 26 (0, 0)) ∧
      Below w.heap.size w ((v0.setCell ⟨b5, 0, none⟩ (.slice g.1 (r.wo c).left.length g.2)).setCell ⟨b5, 1, none⟩ (.slice z.1 (r.wo c).right.length z.2)) ∧ IsMks ((v0.setCell ⟨b5, 0, none⟩ (.slice g.1 (r.wo c).left.length g.2)).setCell ⟨b5, 1, none⟩ (.slice z.1 (r.wo c).right.length z.2)) g.1 (r.wo c).left ∧ IsMks ((v0.setCell ⟨b5, 0, none⟩ (.slice g.1 (r.wo c).left.length g.2)).setCell ⟨b5, 1, none⟩ (.slice z.1 (r.wo c).right.length z.2)) z.1 (r.wo c).right) := by
    have h3 := HL.out.2
    have hbw : Below b3 w v0 := HW.out.2.2.2.1.trans (hb.mono (by have := heap_lt HW.out.1; omega))
    refine ⟨hx1.trans rfl, ?_, ?_, ?_, ?_⟩
    · rw [Below.heap_setCell _ _ _ _ hne, Below.heap_setCell _ _ _ _ hne]; exact k6
    · rw [h3]
      exact (hbw.setCell (p := ⟨b5, 0, none⟩) hb5 _).setCell (p := ⟨b5, 1, none⟩) hb5 _
    · exact (hg.setCell (fun ad e => Nat.lt_of_lt_of_le (heap_lt HW.out.1) (hlo.1 ad e))).setCell (fun ad e => Nat.lt_of_lt_of_le (heap_lt HW.out.1) (hlo.1 ad e))
    · exact (hp.setCell (fun ad e => Nat.lt_of_lt_of_le (heap_lt HW.out.1) (hlo.2 ad e))).setCell (fun ad e => Nat.lt_of_lt_of_le (heap_lt HW.out.1) (hlo.2 ad e))
  have hlg : ∀ ad, g.1 = some ad → b4 < ad.block := fun ad e => Nat.lt_of_lt_of_le (heap_lt HW.out.2.2.1) (hlo.1 ad e)
  have hlp : ∀ ad, z.1 = some ad → b4 < ad.block := fun ad e => Nat.lt_of_lt_of_le (heap_lt HW.out.2.2.1) (hlo.2 ad e)
  have HLP := Lib.hid (And.intro hlg hlp)
  clear hlg hlp
  clear k3 k6 hx0 hx1
  revert HZ
  generalize (v0.setCell ⟨b5, 0, none⟩ (.slice g.1 (r.wo c).left.length g.2)).setCell ⟨b5, 1, none⟩ (.slice z.1 (r.wo c).right.length z.2) = w2
  intro HZ
  have m0 : w2.cell? ⟨b5, 0, none⟩ = some (.slice g.1 (r.wo c).left.length g.2) := by rw [cell_of_heap HZ.out.1]; rfl
  have m1 : w2.cell? ⟨b5, 1, none⟩ = some (.slice z.1 (r.wo c).right.length z.2) := by rw [cell_of_heap HZ.out.1]; rfl
  have m2 : w2.cell? ⟨b5, 2, none⟩ = some (.int .i64 r.shift.lo) := by rw [cell_of_heap HZ.out.1]; rfl
  have m3 : w2.cell? ⟨b5, 3, none⟩ = some (.int .i64 r.shift.hi) := by rw [cell_of_heap HZ.out.1]; rfl
  have m4 : w2.cell? ⟨b5, 4, none⟩ = some (.int .i64 r.hidden) := by rw [cell_of_heap HZ.out.1]; rfl
  have n0 : w2.cell? ⟨b4, 0, none⟩ = some (.slice none 0 0) := by rw [cell_of_heap HZ.out.2.1]; rfl
  have n1 : w2.cell? ⟨b4, 1, none⟩ = some (.slice none 0 0) := by rw [cell_of_heap HZ.out.2.1]; rfl
  have n2 : w2.cell? ⟨b4, 2, none⟩ = some (.int .i64 0) := by rw [cell_of_heap HZ.out.2.1]; rfl
  have n3 : w2.cell? ⟨b4, 3, none⟩ = some (.int .i64 0) := by rw [cell_of_heap HZ.out.2.1]; rfl
  have n4 : w2.cell? ⟨b4, 4, none⟩ = some (.int .i64 0) := by rw [cell_of_heap HZ.out.2.1]; rfl
  have f6 : ∀ k, w2.frozen? ⟨b4, k, none⟩ = false := fun k => frozen_of_heap HZ.out.2.1
  go_wp2_with fail
  obtain ⟨z1, z2, z3⟩ := put5 (.slice g.1 (r.wo c).left.length g.2) (.slice z.1 (r.wo c).right.length z.2) (.int .i64 r.shift.lo) (.int .i64 r.shift.hi) (.int .i64 r.hidden) HZ.out.2.1
  have hb3 := HL.out.2
  have hb6 := HL.out.1
  have hsz := HZ.out.2.2.1.size
  refine bodyPost_ret (v := (r.wo c).v g.1 g.2 z.1 z.2) (res_c26 rfl _ rfl z1) rfl ⟨g, z, rfl, z3 _ _ HZ.out.2.2.2.1 HLP.out.1, z3 _ _ HZ.out.2.2.2.2 HLP.out.2, ?_⟩
  rw [hb3] at hsz
  have hzz := HZ.out.2.2.1
  rw [hb3] at hzz
  exact hzz.trans (z2.below hsz (fun k hk e => by omega))
end Go.Proofs.YtbnhngfegnhaiaaDoor
namespace Go.Proofs.YtbnhngfegnhaiaaDoor
open Go.RowKit
set_option linter.unusedVariables false
set_option linter.unusedSimpArgs false
theorem keyed106 : Maps.Keyed Tryd.prog 106 :=
  Maps.Keyed.of_law (deep_law_laid laidOut (m := 3) (by decide) (by rw [tsize]; decide) (by kernel_rfl) (by kernel_rfl))
theorem keyType106 : Tryd.prog.keyType 106 = true := by kernel_rfl
theorem cells104 : Tryd.prog.cellsOf 104 = 1 := by kernel_rfl
theorem cells106 : Tryd.prog.cellsOf 106 = 2 := by kernel_rfl
theorem lits106 (n : Nat) (a b : Int) (ha : (Lit.int .u64 a).wf = true) (hb : (Lit.int .u64 b).wf = true) :
    ∃ l, Tryd.prog.keyLits (n + 1 + 1) 106 [.int .u64 a, .int .u64 b] = some l := by
  have e : List.range 2 = [0, 1] := rfl
  simp [Program.keyLits, Tryd.underlying106, Tryd.underlying104, cells106, cells104, ha, hb, e, List.mapM_cons]
theorem key106 (a b : Int) (ha : (Lit.int .u64 a).wf = true) (hb : (Lit.int .u64 b).wf = true) : ∃ l, keyOf Tryd.prog 106 (.agg #[.int .u64 a, .int .u64 b]) = some l := by
  obtain ⟨l, hl⟩ := lits106 222 a b ha hb
  have hl' : Tryd.prog.keyLits 224 106 [.int .u64 a, .int .u64 b] = some l := hl
  refine ⟨.string (keyBytes l), ?_⟩
  simp [keyOf, Tryd.underlying106, keyType106, Value.formed, cells106, Value.cells, tsize, hl']
theorem wf_u64 {x : Int} (h0 : 0 ≤ x) (h1 : x ≤ 9223372036854775807) : (Lit.int .u64 x).wf = true := by
  have e1 : IntKind.u64.min = 0 := by decide
  have e2 : IntKind.u64.max = 18446744073709551615 := by decide
  simp [Lit.wf, e1, e2]
  omega
def SetOk (c : Nat × Nat) : Prop := c.1 < 1024 ∧ c.2 < 1024
theorem set_key {c : Nat × Nat} (h : SetOk c) : ∃ l, keyOf Tryd.prog 106 (setV c) = some l := by
  have h1 := h.1
  have h2 := h.2
  exact key106 _ _ (wf_u64 (by omega) (by omega)) (wf_u64 (by omega) (by omega))
theorem set_inj {s r : Nat × Nat} (h : setV s = setV r) : s = r := by
  obtain ⟨a, b⟩ := s
  obtain ⟨a', b'⟩ := r
  simp only [setV, Value.agg.injEq, Array.mk.injEq, List.cons.injEq, Value.int.injEq, true_and, and_true] at h
  obtain ⟨h1, h2⟩ := h
  simp; omega
/-- What is known of these rows without marks. -/
def KnownW (r : Rws) (w : World) (mb : Nat) : Prop :=
  ∃ M : List (Nat × Nat), MapRaw Tryd.prog 106 w mb (M.map fun c => (setV c, .bool (r.wo c).is)) ∧ ∀ c ∈ M, SetOk c
theorem KnownW.kept {r : Rws} {w w' : World} {mb : Nat} (h : KnownW r w mb) (hb : w'.heap[mb]? = w.heap[mb]?) : KnownW r w' mb := by
  obtain ⟨M, h1, h2⟩ := h
  exact ⟨M, h1.kept hb, h2⟩
theorem KnownW.lt {r : Rws} {w : World} {mb : Nat} (h : KnownW r w mb) : mb < w.heap.size := by
  obtain ⟨M, h1, _⟩ := h
  exact h1.lt
theorem KnownW.map {r : Rws} {w : World} {mb : Nat} (h : KnownW r w mb) : ∃ es c, w.heap[mb]? = some (.map es c) := by
  obtain ⟨M, ⟨es, c, h1, _⟩, _⟩ := h
  exact ⟨es, c, h1⟩
theorem KnownW.made (r : Rws) (w : World) : KnownW r (w.alloc (.map #[] 0)) w.heap.size := ⟨[], MapRaw.made _ _ w, fun _ h => by cases h⟩
theorem infoB4 : (Tryd.prog.info? 4).map (fun i => (i.zero, i.size, i.bytes)) = some (some (.bool false), 1, 1) := by kernel_rfl
theorem zero4 (w : World) : (zeroValue 4).run Tryd.prog w = .ok (.bool false) w := by
  obtain ⟨i0, hi0, hz0, _⟩ := info_parts infoB4
  simp [zeroValue, typeInfo, hi0, hz0, Result.andThen]
theorem KnownW.look {r : Rws} {w : World} {mb : Nat} {s : Nat × Nat} (h : KnownW r w mb) (hs : SetOk s) :
    ∃ (x ok : Bool), (∀ w', w'.heap[mb]? = w.heap[mb]? → (Instr.lookup 155 (.map (some mb)) (setV s) true).run Tryd.prog w' = .ok (.tuple #[.bool x, .bool ok]) w') ∧ (ok = true → x = (r.wo s).is) := by
  obtain ⟨M, h1, h2⟩ := h
  by_cases hm : s ∈ M
  · refine ⟨(r.wo s).is, true, fun w' hw => ?_, fun _ => rfl⟩
    obtain ⟨v', ok', hr', hc'⟩ := (h1.kept hw).look keyed106 Tryd.underlying155 (set_key hs) (zero4 w') true
    rcases hc' with ⟨rfl, rfl, hn⟩ | ⟨rfl, hmm'⟩
    · exact (hn (setV s, .bool (r.wo s).is) (List.mem_map.2 ⟨s, hm, rfl⟩) rfl).elim
    · obtain ⟨Z, hZ, e⟩ := List.mem_map.1 hmm'
      simp only [Prod.mk.injEq] at e
      have hzs := set_inj e.1
      have ev : v' = .bool (r.wo s).is := by rw [← e.2, hzs]
      rw [ev] at hr'
      simpa using hr'
  · refine ⟨false, false, fun w' hw => ?_, fun h => by cases h⟩
    obtain ⟨v, ok, hr, hc⟩ := (h1.kept hw).look keyed106 Tryd.underlying155 (set_key hs) (zero4 w') true
    rcases hc with ⟨rfl, rfl, hn⟩ | ⟨rfl, hmm⟩
    · show _ = Result.ok (Value.tuple #[.bool false, .bool false]) w'
      simpa using hr
    · obtain ⟨X, hX, e⟩ := List.mem_map.1 hmm
      simp only [Prod.mk.injEq] at e
      exact (hm ((set_inj e.1) ▸ hX)).elim
theorem KnownW.update {r : Rws} {w : World} {mb : Nat} {s : Nat × Nat} (h : KnownW r w mb) (hs : SetOk s) :
    ∃ w', (Instr.mapUpdate 155 (.map (some mb)) (setV s) (.bool (r.wo s).is)).run Tryd.prog w = .ok () w' ∧ Same (fun k => k = mb) w w' ∧ KnownW r w' mb := by
  obtain ⟨M, h1, h2⟩ := h
  obtain ⟨w', hr, hg, hsz, hc⟩ := h1.update keyed106 Tryd.underlying155 (set_key hs) (.bool (r.wo s).is)
  have hS : Same (fun k => k = mb) w w' := (Same.refl _ w).grown hg (fun k hk => by cases hk; exact .inl rfl)
  refine ⟨w', hr, hS, ?_⟩
  rcases hc with ⟨_, hm⟩ | ⟨j, v, hj, hm⟩
  · refine ⟨M ++ [s], by rw [List.map_append]; exact hm, fun X hX => ?_⟩
    rcases List.mem_append.1 hX with hX | hX
    · exact h2 X hX
    · rw [List.mem_singleton.1 hX]; exact hs
  · refine ⟨M.set j s, ?_, fun X hX => ?_⟩
    · rw [List.map_set]; exact hm
    · rcases List.mem_or_eq_of_mem_set hX with hX | hX
      · exact h2 X hX
      · rw [hX]; exact hs
end Go.Proofs.YtbnhngfegnhaiaaDoor
namespace Go.Proofs.YtbnhngfegnhaiaaDoor
open Go.RowKit
set_option linter.unusedVariables false
set_option linter.unusedSimpArgs false
/-- The k-th pair. -/
def gp (l : List (Nat × Nat)) (k : Nat) : Nat × Nat := l.getD k (0, 0)
def IsPairs (w : World) (a : Option Addr) (l : List (Nat × Nat)) : Prop := ∀ i, i < l.length → ∃ b off, a = some ⟨b, off, none⟩ ∧ w.cell? ⟨b, off + i * 2, none⟩ = some (.int .i64 (gp l i).1) ∧ w.cell? ⟨b, off + i * 2 + 1, none⟩ = some (.int .i64 (gp l i).2)
theorem IsPairs.mono {w w' : World} {a : Option Addr} {l : List (Nat × Nat)} (h : IsPairs w a l) (hb : Below w.heap.size w w') : IsPairs w' a l := fun i hi => by
  obtain ⟨b, off, e, h1, h2⟩ := h i hi
  exact ⟨b, off, e, cell_stays hb h1, cell_stays hb h2⟩
theorem prV_at : ∀ {l : List (Nat × Nat)} {i : Nat}, i < l.length → (prV l)[i * 2]? = some (.int .i64 (gp l i).1) ∧ (prV l)[i * 2 + 1]? = some (.int .i64 (gp l i).2)
  | p :: l, 0, _ => ⟨rfl, rfl⟩
  | p :: l, i + 1, h => by
    have ih := prV_at (l := l) (i := i) (by simpa using h)
    have e1 : (i + 1) * 2 = i * 2 + 1 + 1 := by omega
    have e2 : prV (p :: l) = .int .i64 p.1 :: .int .i64 p.2 :: prV l := rfl
    rw [e1, e2]
    exact ih
theorem own_pairs {w : World} {base : Nat} {l : List (Nat × Nat)} {q : Option Addr × Nat} (h : w.ownsRow base 42 2 (.slice q.1 l.length q.2) l.length (prV l)) : IsPairs w q.1 l := fun i hi => by
  obtain ⟨g, cap, e, _, _, _, _, hc⟩ := own_cell h (by omega)
  simp only [Value.slice.injEq] at e
  obtain ⟨h1, h2⟩ := prV_at hi
  exact ⟨g, 0, e.1, by rw [Nat.zero_add]; exact hc _ _ h1, by rw [Nat.zero_add]; exact hc _ _ h2⟩
theorem res_c31 {fn : Func} {u v x : Tmp} (h : fn.results = #[.cell u 31, .tmp v, .tmp x]) (tmps : Array Value) {w : World} {b : Nat} {y z1 z2 : Value} (hp : tmps.getD u undef = .pointer (some ⟨b, 0, none⟩)) (h1 : tmps.getD v undef = z1) (h2 : tmps.getD x undef = z2) (hy : w.cell? ⟨b, 0, none⟩ = some y) :
    (results fn tmps).run Tryd.prog w = .ok (.tuple #[y, z1, z2]) w := by
  have hp' : tmps[u]?.getD undef = .pointer (some ⟨b, 0, none⟩) := by simpa using hp
  have h1' : tmps[v]?.getD undef = z1 := by simpa using h1
  have h2' : tmps[x]?.getD undef = z2 := by simpa using h2
  simp [results, h, hp', h1', h2', hy, go_sem]
/-- How much is left to find. -/
def leftOf (w : World) (p : Nat) : Nat := match w.cell? ⟨p, 0, none⟩ with
  | some v => (intOf v).toNat
  | none => 0
theorem leftOf_eq {w : World} {p x : Nat} (h : w.heap[p]? = some (.cells #[.int .i64 (x : Int)] 3 (0, 0))) : leftOf w p = x := by
  unfold leftOf
  rw [cell_at0 h]
  simp [intOf]
noncomputable def few7C : Code := (Tryd.f7.body.bind (fromRegion 7)).getD .skip
theorem heap_lt' {w : World} {j : Nat} {o : Obj} (h : w.heap[j]? = some o) : j < w.heap.size := (Array.getElem?_eq_some_iff.1 h).1
set_option maxRecDepth 100000 in
set_option maxHeartbeats 16000000 in
theorem few7 {r : Rws} {al ar : Option Addr} {cl cr : Nat} {w0 V : World} {b b2 b6 p7 : Nat} {hd : Int} {R : Ending → World → Prop} (l1 : r.left.length ≤ 10) (l2 : r.right.length ≤ 10) (hm : IsMks w0 al r.left ∧ IsMks w0 ar r.right)
    (hle : Below w0.heap.size w0 V) (hrws : V.heap[b]? = some (.cells (rowsL r al cl ar cr (fitT r) r.need).toArray 130 (0, 0))) (htab : V.heap[b6]? = some (.cells (numL (fewU r)).toArray 72 (0, 0)))
    (hleft : V.heap[p7]? = some (.cells #[.int .i64 (mst r.fit r.left.length r.right.length r.left.length r.right.length : Nat)] 3 (0, 0))) (hrow : V.heap[b2]? = some (.cells #[.slice none 0 0] 31 (0, 0))) (hlo : w0.heap.size ≤ b2 ∧ w0.heap.size ≤ p7) {s0 s1 s8 s9 s10 s11 s12 s13 s14 s15 s16 s17 s18 s19 s20 s21 s22 s23 s24 s25 s26 s27 s28 s29 s30 s31 s32 s33 s34 s35 s36 s37 s38 s39 s40 s41 s42 s43 s44 s45 s46 s47 s48 s49 s50 s51 s52 s53 s54 s55 s56 s57 s58 s59 s60 s61 s62 s63 s64 s65 s66 s67 s68 : Value}
    (hR : ∀ (q : Option Addr × Nat) (W : World), IsPairs W q.1 r.few → Below w0.heap.size w0 W → R (.returned (.tuple #[.slice q.1 r.few.length q.2, .int .i64 hd, .int .i64 0])) W) :
    Code.wp Tryd.prog few7C (bodyPostM Fence.wide 0 Tryd.prog Tryd.f7 R) { tmps := List.toArray (s0 :: s1 :: .pointer (some ⟨b2, 0, none⟩) :: .int .i64 (hd) :: .int .i64 (0) :: .pointer (some ⟨b, 0, none⟩) :: .pointer (some ⟨b6, 0, none⟩) :: .pointer (some ⟨p7, 0, none⟩) :: s8 :: s9 :: s10 :: s11 :: s12 :: s13 :: s14 :: s15 :: s16 :: s17 :: s18 :: s19 :: s20 :: s21 :: s22 :: s23 :: s24 :: s25 :: s26 :: s27 :: s28 :: s29 :: s30 :: s31 :: s32 :: s33 :: s34 :: s35 :: s36 :: s37 :: s38 :: s39 :: s40 :: s41 :: s42 :: s43 :: s44 :: s45 :: s46 :: s47 :: s48 :: s49 :: s50 :: s51 :: s52 :: s53 :: s54 :: s55 :: s56 :: s57 :: s58 :: s59 :: s60 :: s61 :: s62 :: s63 :: s64 :: s65 :: s66 :: s67 :: s68 :: []), defers := [] } V := by
  have HR := Lib.hid hR
  have HM := Lib.hid hm
  have HL := Lib.hid (And.intro l1 l2)
  obtain ⟨W0, hW0⟩ : ∃ W0, W0 = ((V.alloc (.cells #[.int .i64 0] 3)).alloc (.cells #[.int .i64 0] 3)) := ⟨_, rfl⟩
  have HX := Lib.hid (alloc2 V #[.int .i64 0] #[.int .i64 0] 3 3)
  clear hR hm l1 l2
  conv => arg 2; whnf
  refine wp_seq_hid ?_
  intro K7 HK7
  go_wp2_with fail
  rw [← hW0] at HX
  rw [← hW0]
  have HI0 : Hid (FewW r al cl ar cr w0 b b2 b6 p7 (mst r.fit r.left.length r.right.length r.left.length r.right.length) V.heap.size (V.heap.size + 1) 0 0 [] (none, 0) W0 ∧ FewH r (mst r.fit r.left.length r.right.length r.left.length r.right.length) 0 0 []) := by
    obtain ⟨g1, g2, g3⟩ := HX.out
    have k7 := heap_lt hleft
    have k2 := heap_lt hrow
    refine ⟨⟨hle.trans (g3.mono hle.size), (g3.block _ (heap_lt hrws)).trans hrws, (g3.block _ (heap_lt htab)).trans htab, (g3.block _ (heap_lt hleft)).trans hleft, g1, g2, (g3.block _ (heap_lt hrow)).trans hrow, World.ownsRow_nil _ _ _ _, ⟨hlo.1, hlo.2, hle.size, by have := hle.size; omega⟩, by omega, by omega, by omega⟩, ⟨rfl, Nat.zero_le _, Nat.zero_le _, by simp⟩⟩
  clear hle hrws htab hleft hrow hlo HX hW0
  revert HI0
  generalize (mst r.fit r.left.length r.right.length r.left.length r.right.length) = x0
  generalize V.heap.size + 1 = p90
  generalize V.heap.size = p80
  intro HI0
  refine wp_loop (fun a w => ∃ (x p8 p9 i k : Nat) (l : List (Nat × Nat)) (q : Option Addr × Nat) (u34 u35 u36 u37 u38 u39 u40 u41 u65 u66 : Value) (ds : List Deferred), a = { tmps := List.toArray (s0 :: s1 :: .pointer (some ⟨b2, 0, none⟩) :: .int .i64 (hd) :: .int .i64 (0) :: .pointer (some ⟨b, 0, none⟩) :: .pointer (some ⟨b6, 0, none⟩) :: .pointer (some ⟨p7, 0, none⟩) :: .pointer (some ⟨p8, 0, none⟩) :: .pointer (some ⟨p9, 0, none⟩) :: s10 :: s11 :: s12 :: s13 :: s14 :: s15 :: s16 :: s17 :: s18 :: s19 :: s20 :: s21 :: s22 :: s23 :: s24 :: s25 :: s26 :: s27 :: s28 :: s29 :: s30 :: s31 :: s32 :: s33 :: u34 :: u35 :: u36 :: u37 :: u38 :: u39 :: u40 :: u41 :: s42 :: s43 :: s44 :: s45 :: s46 :: s47 :: s48 :: s49 :: s50 :: s51 :: s52 :: s53 :: s54 :: s55 :: s56 :: s57 :: s58 :: s59 :: s60 :: s61 :: s62 :: s63 :: s64 :: u65 :: u66 :: s67 :: s68 :: []), defers := ds } ∧ FewW r al cl ar cr w0 b b2 b6 p7 x p8 p9 i k l q w ∧ FewH r x i k l ∧ MarksAt w0.heap.size ds w) (fun _ w => leftOf w p7)
    ⟨x0, p80, p90, 0, 0, [], (none, 0), s34, s35, s36, s37, s38, s39, s40, s41, s65, s66, [], rfl, HI0.out.1, HI0.out.2, MarksAt.nil _ _⟩ ?_
  clear HI0
  rintro a w ⟨x, p8, p9, i, k, l, q, u34, u35, u36, u37, u38, u39, u40, u41, u65, u66, ds, rfl, hW, hH, hD⟩
  have HX := Lib.hid (And.intro hW (And.intro hH hD))
  have hlf : Hid (leftOf w p7 = x) := leftOf_eq hW.left
  have c7 := cell_at0 hW.left
  have hx10 : x ≤ 10 := by rw [← hH.most]; exact Nat.le_trans (mst_le _ _ _ _ _) (by have := HL.out.1; omega)
  clear hW hH hD
  cases x with
  | zero =>
    have f2 : w.frozen? ⟨b2, 0, none⟩ = false := frozen_of_heap HX.out.1.row
    have c2 := cell_at0 HX.out.1.row
    go_wp2_with fail
    refine HK7.out _ _ ?_
    go_wp2_with fail
    obtain ⟨hW, hH, hD⟩ := HX.out
    have hal : r.few = l := by rw [hH.all]; unfold fewL; simp
    obtain ⟨ks, rfl, hnd, hall⟩ := hD
    have hlq : l.length = r.few.length := by rw [hal]
    have hs2 : Same (fun j => j = b2) w (w.setCell ⟨b2, 0, none⟩ (.slice q.1 l.length q.2)) := (Same.refl (fun j => j = b2) w).setCell (p := ⟨b2, 0, none⟩) (.inl rfl) _
    have g2 : (w.setCell ⟨b2, 0, none⟩ (.slice q.1 l.length q.2)).heap[b2]? = some (.cells #[.slice q.1 l.length q.2] 31 (0, 0)) := heap_setCell_at (k := 0) hW.row _
    have hlo := hW.lo
    have hown : (w.setCell ⟨b2, 0, none⟩ (.slice q.1 l.length q.2)).ownsRow w0.heap.size 42 2 (.slice q.1 l.length q.2) l.length (prV l) := own_same hW.own hs2 (fun j e h => by
      obtain ⟨_, cur, hc⟩ := own_ty hW.own h
      rw [e, hW.row] at hc; simp at hc)
    have hle : Below w0.heap.size w0 (w.setCell ⟨b2, 0, none⟩ (.slice q.1 l.length q.2)) := hW.le.trans (hs2.below hW.le.size (fun j hj e => by omega))
    refine leaves_marks (v := .tuple #[.slice q.1 l.length q.2, .int .i64 hd, .int .i64 0]) (n := w0.heap.size) ks _ hnd (fun j hj => ⟨(hall j hj).1, (hs2.block j (heap_lt' (hall j hj).2) (fun e => by have h := (hall j hj).2; rw [e, hW.row] at h; cases h)).trans (hall j hj).2⟩) (fun W' hs hsz => ?_)
    have h3 : W'.heap[b2]? = some (.cells #[.slice q.1 l.length q.2] 31 (0, 0)) := (hs.block _ (heap_lt g2) (fun e => by rw [g2] at e; cases e.2)).trans g2
    have hown' := own_same hown hs (fun j e h => by
      obtain ⟨_, cur, hc⟩ := own_ty hown h
      rw [hc] at e; cases e.2)
    refine ⟨res_c31 rfl _ rfl rfl rfl (cell_at0 h3), ?_⟩
    have hip := own_pairs hown'
    rw [← hal] at hip
    have hfin := HR.out q W' hip (hle.trans (hs.below hle.size (fun j hj e => by have := e.1; omega)))
    rw [← hlq] at hfin
    exact hfin
  | succ y =>
    refine wp_seq_hid ?_
    intro Ka HKa
    go_wp2_with fail
    refine HKa.out _ _ ?_
    clear HKa Ka c7
    refine wp_seq_hid ?_
    intro Kc HKc
    refine wp_block ?_
    refine wp_scope_straight ?_
    refine wp_seq ?_
    refine wp_label ?_
    refine few10 (y := y) (i := i) (k := k) (l := l) (q := q) HL.out.1 HL.out.2 HM.out ?hl HX.out.1 HX.out.2.1 ?hQ
    case hl =>
      have h := few_len r
      rw [HX.out.2.1.all] at h
      simp at h
      have := HL.out.1
      omega
    intro D p q' W hD1 hD2 hD3 hW2 hH2
    refine HKc.out _ _ ?_
    clear HKc Kc
    have HX2 := Lib.hid (And.intro hW2 (And.intro hH2 (MarksAt.cons HX.out.2.2 hD1 (by have := HX.out.1.le.size; omega) hD2 hD3)))
    have c8 := cell_at0 hW2.ci
    have c9 := cell_at0 hW2.ck
    have c7 := cell_at0 hW2.left
    have f7 : W.frozen? ⟨p7, 0, none⟩ = false := frozen_of_heap hW2.left
    have n7 : p7 < W.heap.size := heap_lt hW2.left
    clear hD1 hD2 hD3 hW2 hH2
    go_wp2_with fail
    obtain ⟨hW2, hH2, hD2⟩ := HX2.out
    obtain ⟨W', hW'⟩ : ∃ W', W' = (((W.setCell ⟨p7, 0, none⟩ (.int .i64 (y : Int))).alloc (.cells #[.int .i64 ((p.1 : Int) + 1)] 3)).alloc (.cells #[.int .i64 ((p.2 : Int) + 1)] 3)) := ⟨_, rfl⟩
    obtain ⟨g1, g2, g3⟩ := alloc2 (W.setCell ⟨p7, 0, none⟩ (.int .i64 (y : Int))) #[.int .i64 ((p.1 : Int) + 1)] #[.int .i64 ((p.2 : Int) + 1)] 3 3
    have hs : Same (fun j => j = p7) W W' := by
      rw [hW']
      exact (((Same.refl (fun j => j = p7) W).setCell (p := ⟨p7, 0, none⟩) (.inl rfl) _).alloc _).alloc _
    have hzs : (W.setCell ⟨p7, 0, none⟩ (.int .i64 (y : Int))).heap.size = W.heap.size := by simp
    rw [← hW'] at g1 g2 g3
    rw [hzs] at g1 g2 g3
    rw [← hW']
    have g7 : W'.heap[p7]? = some (.cells #[.int .i64 (y : Int)] 3 (0, 0)) := (g3.block _ n7).trans (heap_setCell_at (k := 0) hW2.left _)
    have e7 : ∀ {j : Nat} {c : Array Value} {t : TypeId} {f : Nat × Nat}, W.heap[j]? = some (.cells c t f) → t ≠ 3 → W'.heap[j]? = some (.cells c t f) := fun {j c t f} h ht => (hs.block _ (heap_lt h) (fun e => by rw [e, hW2.left] at h; simp at h; exact ht h.2.1.symm)).trans h
    have g8 : W'.heap[W.heap.size]? = some (.cells #[.int .i64 ((p.1 + 1 : Nat) : Int)] 3 (0, 0)) := by rw [g1]; simp
    have g9 : W'.heap[W.heap.size + 1]? = some (.cells #[.int .i64 ((p.2 + 1 : Nat) : Int)] 3 (0, 0)) := by rw [g2]; simp
    have hlo := hW2.lo
    have hls := hW2.le.size
    refine ⟨⟨y, W.heap.size, W.heap.size + 1, p.1 + 1, p.2 + 1, l ++ [p], q', _, _, _, _, _, _, _, _, _, _, _, rfl, ⟨hW2.le.trans (hs.below hls (fun j hj e => by omega)), e7 hW2.rws (by decide), e7 hW2.tab (by decide), g7, g8, g9, e7 hW2.row (by decide), own_same hW2.own hs (fun j e h => by
      obtain ⟨_, cur, hc⟩ := own_ty hW2.own h
      rw [e, hW2.left] at hc; simp at hc), ⟨hlo.1, hlo.2.1, hls, by omega⟩, by omega, by omega, by omega⟩, hH2, hD2.mono (fun j hj hd => (hs.block j hj (fun e => by rw [e, hW2.left] at hd; cases hd)).trans hd)⟩, ?_⟩
    rw [leftOf_eq g7, hlf.out]
    omega
set_option maxRecDepth 100000 in
set_option maxHeartbeats 16000000 in
theorem fewest7 {r : Rws} {al ar : Option Addr} {cl cr : Nat} {w : World} (hv : r.valid = true) (h1 : IsMks w al r.left) (h2 : IsMks w ar r.right) :
    Calls Tryd.prog 7 #[r.v al cl ar cr] w fun e w' => Below w.heap.size w w' ∧ ((r.is = false ∧ e = .returned (.tuple #[.slice none 0 0, .int .i64 0, .int .i64 4])) ∨ (r.is = true ∧ ∃ (q : Option Addr × Nat) (hd : Int), e = .returned (.tuple #[.slice q.1 r.few.length q.2, .int .i64 hd, .int .i64 0]) ∧ IsPairs w' q.1 r.few)) := by
  have HX := Lib.hid (alloc2 w (r.arr al cl ar cr) #[.slice none 0 0] 26 31)
  have HM0 := Lib.hid (And.intro h1 h2)
  have HM := Lib.hid (And.intro (h1.mono HX.out.2.2) (h2.mono HX.out.2.2))
  have HV := Lib.hid (And.intro hv (rnums_of hv))
  have l1 : r.left.length ≤ 10 := HV.out.2.l1
  have l2 : r.right.length ≤ 10 := HV.out.2.l2
  clear hv h1 h2
  refine calls_of_wp_marks Tryd.func7 rfl ?_
  simp only [Tryd.ntmps7, List.size_toArray, List.length_cons, List.length_nil, Nat.reduceAdd, Nat.reduceSub, Array.replicate_succ, Array.replicate_zero, List.push_toArray, List.append_toArray, List.nil_append, List.cons_append]
  refine wp_seq_hid ?_
  intro K0 HK0
  go_wp2_with fail
  refine HK0.out _ _ ?_
  clear HK0 K0
  revert HX HM
  generalize (w.alloc (.cells (r.arr al cl ar cr) 26)).alloc (.cells #[.slice none 0 0] 31) = w1
  generalize hb2 : w.heap.size + 1 = b2
  generalize hb1 : w.heap.size = b1
  intro HX HM
  have HLT : Hid (w.heap.size = b1 ∧ b1 ≤ b2 ∧ b1 ≤ w1.heap.size) := ⟨hb1, by omega, Nat.le_of_lt (heap_lt HX.out.1)⟩
  clear hb1 hb2
  have KF : Hid (∀ v, Below w1.heap.size w1 v → v.heap[b1]? = some (.cells (r.arr al cl ar cr) 26 (0, 0)) ∧ v.heap[b2]? = some (.cells #[.slice none 0 0] 31 (0, 0)) ∧ Below b1 w v ∧ IsMks v al r.left ∧ IsMks v ar r.right) := fun v hv =>
    ⟨(hv.block _ (heap_lt HX.out.1)).trans HX.out.1, (hv.block _ (heap_lt HX.out.2.1)).trans HX.out.2.1, HX.out.2.2.trans (hv.mono HLT.out.2.2), HM.out.1.mono hv, HM.out.2.mono hv⟩
  have HR0 := Lib.hid (Below.refl w1.heap.size w1)
  clear HX HM
  refine wp_seq_hid ?_
  intro K1 HK1
  have m0 : w1.cell? ⟨b1, 0, none⟩ = some (.slice al r.left.length cl) := by rw [cell_of_heap (KF.out w1 HR0.out).1]; rfl
  have m1 : w1.cell? ⟨b1, 1, none⟩ = some (.slice ar r.right.length cr) := by rw [cell_of_heap (KF.out w1 HR0.out).1]; rfl
  have m2 : w1.cell? ⟨b1, 2, none⟩ = some (.int .i64 r.shift.lo) := by rw [cell_of_heap (KF.out w1 HR0.out).1]; rfl
  have m3 : w1.cell? ⟨b1, 3, none⟩ = some (.int .i64 r.shift.hi) := by rw [cell_of_heap (KF.out w1 HR0.out).1]; rfl
  have m4 : w1.cell? ⟨b1, 4, none⟩ = some (.int .i64 r.hidden) := by rw [cell_of_heap (KF.out w1 HR0.out).1]; rfl
  go_wp2_with fail
  refine (open49 HV.out.1 (KF.out w1 HR0.out).2.2.2.1 (KF.out w1 HR0.out).2.2.2.2).mono ?_
  clear m0 m1 m2 m3 m4
  rintro e w2 ⟨hb, (⟨his, rfl⟩ | ⟨his, b, rfl, hlt, hR⟩)⟩
  · have HE := Lib.hid (And.intro his hb)
    clear his hb
    have c2 := cell_at0 (KF.out w2 HE.out.2).2.1
    have f2 : w2.frozen? ⟨b2, 0, none⟩ = false := frozen_of_heap (KF.out w2 HE.out.2).2.1
    go_wp2_with fail
    refine HK1.out _ _ ?_
    go_wp2_with fail
    obtain ⟨g1, g2, g3, _⟩ := KF.out w2 HE.out.2
    refine leaves_marks (v := .tuple #[.slice none 0 0, .int .i64 0, .int .i64 4]) (n := b1) [] _ (by simp) (by simp) (fun W' hs hsz => ?_)
    have h2 : (w2.setCell ⟨b2, 0, none⟩ (.slice none 0 0)).heap[b2]? = some (.cells #[.slice none 0 0] 31 (0, 0)) := heap_setCell_at (k := 0) g2 _
    have h3 : W'.heap[b2]? = some (.cells #[.slice none 0 0] 31 (0, 0)) := (hs.block _ (heap_lt h2) (fun e => by rw [h2] at e; cases e.2)).trans h2
    have h4 : Below b1 w (w2.setCell ⟨b2, 0, none⟩ (.slice none 0 0)) := g3.setCell (p := ⟨b2, 0, none⟩) HLT.out.2.1 _
    exact ⟨res_c31 rfl _ rfl rfl rfl (cell_at0 h3), h4.trans (hs.below (by have := h4.size; have := HLT.out.1; omega) (fun j hj e => by have := e.1; omega)), .inl ⟨HE.out.1, rfl⟩⟩
  · have hR2 : IsRws w2 b r al cl ar cr (fitT r) r.need := hR
    have HE := Lib.hid (And.intro his (And.intro hb (And.intro hR2 hlt)))
    clear his hb hR hR2 hlt
    go_wp2_with fail
    refine HK1.out _ _ ?_
    clear HK1 K1
    refine wp_seq_hid ?_
    intro K2 HK2
    go_wp2_with fail
    refine HK2.out _ _ ?_
    clear HK2 K2
    refine wp_seq_hid ?_
    intro K4 HK4
    go_upto_region 4 with fail
    have HTB : Hid (∀ v : World, (v.alloc (.cells Tryd.zeroCells72 72)).there v.heap.size 0 (numL (fewU r)).toArray.size) := fun v j hj => by
      rw [List.size_toArray, numL_len] at hj
      refine ⟨?_, frozen_of_heap (World.alloc_heap_new _ _)⟩
      rw [Nat.zero_add, cell_of_heap (World.alloc_heap_new _ _)]
      have hz : Tryd.zeroCells72.size = 121 := by rfl
      rw [Array.getElem?_eq_getElem (by omega)]
      rfl
    go_wp2_with fail
    refine (most82 HE.out.2.2.1 l1 l2).mono ?_
    rintro e w3 ⟨rfl, hb3⟩
    rw [show dI (fun i k => fitT r (i * 10 + k)) r.left.length r.right.length 0 0 = fewU r from rfl]
    have HB3 := Lib.hid hb3
    clear hb3
    go_wp2_with (refine wpList_store_mid rfl 72 _ _ (by rfl) w3.heap.size 0 (numL (fewU r)).toArray (by rfl) (by rfl) (HTB.out w3) (by rw [List.size_toArray, numL_len]; exact info156) (numL_one _) ?_)
    refine HK4.out _ _ ?_
    clear HK4 K4
    have hz72 : Tryd.zeroCells72.size = (numL (fewU r)).length := by rw [numL_len]; rfl
    have H4 : Hid (Below w3.heap.size w3 ((w3.alloc (.cells Tryd.zeroCells72 72)).setCells w3.heap.size 0 (numL (fewU r))) ∧ ((w3.alloc (.cells Tryd.zeroCells72 72)).setCells w3.heap.size 0 (numL (fewU r))).heap[w3.heap.size]? = some (.cells (numL (fewU r)).toArray 72 (0, 0))) :=
      ⟨below_setCells (Nat.le_refl _) _ 0 _ (alloc_below _ _), heap_setCells_all (World.alloc_heap_new _ _) hz72⟩
    clear hz72
    revert H4
    generalize (w3.alloc (.cells Tryd.zeroCells72 72)).setCells w3.heap.size 0 (numL (fewU r)) = w4
    generalize hb6 : w3.heap.size = b6
    intro H4
    have HB4 : Hid (Below w2.heap.size w2 w4) := by have h := H4.out.1; rw [← hb6] at h; exact HB3.out.trans (h.mono HB3.out.size)
    clear hb6 HTB
    have hx : fewU r 0 = (mst r.fit r.left.length r.right.length r.left.length r.right.length : Nat) := by
      have h := fewU_at (r := r) l2 (a := 0) (b := 0) (Nat.zero_le _) (Nat.zero_le _)
      simpa using h
    have hx10 : mst r.fit r.left.length r.right.length r.left.length r.right.length ≤ 10 := Nat.le_trans (mst_le _ _ _ _ _) l1
    have HX0 := Lib.hid hx
    have c6 : w4.cell? ⟨b6, 0, none⟩ = some (.int .i64 (mst r.fit r.left.length r.right.length r.left.length r.right.length : Nat)) := by rw [← hx]; exact num_cell H4.out.2 (by decide)
    clear hx
    have HR7 := Lib.hid (fun (x : Nat) (h : mst r.fit r.left.length r.right.length r.left.length r.right.length = x) => h)
    refine wp_seq_hid ?_
    intro K5 HK5
    have HQ5 := Lib.hid (And.intro (World.alloc_heap_new w4 (.cells #[.int .i64 (mst r.fit r.left.length r.right.length r.left.length r.right.length : Nat)] 3)) (alloc_below w4 (.cells #[.int .i64 (mst r.fit r.left.length r.right.length r.left.length r.right.length : Nat)] 3)))
    go_wp2_with fail
    refine HK5.out _ _ ?_
    clear HK5 K5 c6
    revert HQ5
    generalize w4.alloc (.cells #[.int .i64 (mst r.fit r.left.length r.right.length r.left.length r.right.length : Nat)] 3) = w5
    generalize hp7 : w4.heap.size = p7
    intro HQ5
    have HB5 : Hid (Below w2.heap.size w2 w5) := by have h := HQ5.out.2; rw [← hp7] at h; exact HB4.out.trans (h.mono HB4.out.size)
    have HT5 : Hid (w5.heap[b6]? = some (.cells (numL (fewU r)).toArray 72 (0, 0))) := (HQ5.out.2.block _ (by rw [← hp7]; exact heap_lt H4.out.2)).trans H4.out.2
    have HP7 : Hid (w.heap.size ≤ p7) := by
      have h1 := (KF.out w2 HE.out.2.1).2.2.1.size
      have h2 := HB4.out.size
      rw [Hid, ← hp7]
      exact Nat.le_trans h1 h2
    clear hp7 H4 HB4 HB3
    have KF5 := Lib.hid (KF.out w5 (HE.out.2.1.trans (HB5.out.mono HE.out.2.1.size)))
    have m0 : w5.cell? ⟨b1, 0, none⟩ = some (.slice al r.left.length cl) := by rw [cell_of_heap KF5.out.1]; rfl
    have m1 : w5.cell? ⟨b1, 1, none⟩ = some (.slice ar r.right.length cr) := by rw [cell_of_heap KF5.out.1]; rfl
    have m7 := cell_at0 HQ5.out.1
    refine wp_seq_hid ?_
    intro K6 HK6
    go_wp2_with fail
    refine HK6.out _ _ ?_
    clear HK6 K6 m0 m1 m7
    exact few7 (w0 := w) (b2 := b2) (p7 := p7) (b6 := b6) l1 l2 HM0.out (by rw [HLT.out.1]; exact KF5.out.2.2.1) ((HB5.out.block _ (heap_lt HE.out.2.2.1.h)).trans HE.out.2.2.1.h) HT5.out HQ5.out.1 KF5.out.2.1 ⟨by rw [HLT.out.1]; exact HLT.out.2.1, HP7.out⟩ (fun q W hq hle => ⟨by rw [← HLT.out.1]; exact hle, .inr ⟨HE.out.1, q, _, rfl, hq⟩⟩)
end Go.Proofs.YtbnhngfegnhaiaaDoor
namespace Go.Proofs.YtbnhngfegnhaiaaDoor
open Go.RowKit
set_option linter.unusedVariables false
set_option linter.unusedSimpArgs false
theorem ones_le (p : Nat → Bool) : ∀ n, ones p n ≤ n
  | 0 => Nat.le_refl _
  | n + 1 => by
    have := ones_le p n
    unfold ones
    split <;> omega
/-- Marks can be those that have been painted. -/
def Rws.caseE (r : Rws) (p : Int) (c : Nat × Nat) : Bool := !(decide (c.1 ≠ 0) && decide (c.2 ≠ 0)) && decide ((ones c.1.testBit 10 : Int) + (ones c.2.testBit 10 : Int) ≤ p) && (r.wo c).is
theorem kept_mem {l : List Mrk} {A : Nat} {m : Mrk} (h : m ∈ keptL l A) : m ∈ l := by
  unfold keptL keptI at h
  obtain ⟨i, hi, rfl⟩ := List.mem_map.1 h
  exact gm_mem (List.mem_range.1 (List.mem_filter.1 hi).1)
theorem wo_valid {r : Rws} (hv : r.valid = true) (c : Nat × Nat) : (r.wo c).valid = true := by
  have hl := wo_lens r c
  unfold Rws.valid at hv ⊢
  simp only [Bool.and_eq_true, decide_eq_true_eq, List.all_eq_true] at hv ⊢
  obtain ⟨⟨⟨⟨h1, h2⟩, h3⟩, h4⟩, h5⟩ := hv
  refine ⟨⟨⟨⟨by omega, by omega⟩, fun m hm => ?_⟩, h4⟩, h5⟩
  refine h3 m ?_
  rw [List.mem_append] at hm ⊢
  exact hm.imp kept_mem kept_mem
theorem CanC.same {r : Rws} {p : Int} {al ar : Option Addr} {cl cr mb cb : Nat} {w w' : World} (h : CanC r p al cl ar cr mb cb w) (hm : ∃ es c, w.heap[mb]? = some (.map es c)) (hs : Same (fun k => k = mb) w w') : CanC r p al cl ar cr mb cb w' :=
  ⟨heap_same hm hs h.h, fun i hi => by
    obtain ⟨b, off, e, hc⟩ := h.ml i hi
    exact ⟨b, off, e, cell_same hm hs hc.c0, cell_same hm hs hc.c1, cell_same hm hs hc.c2, cell_same hm hs hc.c3⟩, fun i hi => by
    obtain ⟨b, off, e, hc⟩ := h.mr i hi
    exact ⟨b, off, e, cell_same hm hs hc.c0, cell_same hm hs hc.c1, cell_same hm hs hc.c2, cell_same hm hs hc.c3⟩⟩
noncomputable def is3C : Code := (Tryd.f106.body.bind (fromRegion 3)).getD .skip
set_option maxRecDepth 100000 in
set_option maxHeartbeats 8000000 in
theorem is3 {r : Rws} {p : Int} {al ar : Option Addr} {cl cr mb cb bx : Nat} {c : Nat × Nat} {w0 V : World} {R : Ending → World → Prop} (hv : r.valid = true) (hc : SetOk c) (hC : CanC r p al cl ar cr mb cb V) (hK : KnownW r V mb) (hbx : V.heap[bx]? = some (.cells #[.int .u64 c.1, .int .u64 c.2] 106 (0, 0)))
    (hs : Same (fun k => k = mb) w0 V) {s1 s2 s4 s5 s6 s7 s8 s9 s10 s11 s12 s13 s14 s15 s16 s17 s18 s19 s20 s21 s22 s23 s24 s25 s26 s27 s28 s29 s30 s31 s32 s33 s34 s35 s36 s37 s38 s39 s40 s41 s42 s43 s44 s45 s46 s47 s48 s49 s50 s51 s52 s53 s54 s55 s56 s57 s58 s59 s60 : Value}
    (hR : ∀ W, Same (fun k => k = mb) w0 W → KnownW r W mb → R (.returned (.bool (r.wo c).is)) W) :
    Code.wp Tryd.prog is3C (bodyPost Tryd.prog Tryd.f106 R) { tmps := List.toArray (.pointer (some ⟨cb, 0, none⟩) :: s1 :: s2 :: .pointer (some ⟨bx, 0, none⟩) :: s4 :: s5 :: s6 :: s7 :: s8 :: s9 :: s10 :: s11 :: s12 :: s13 :: s14 :: s15 :: s16 :: s17 :: s18 :: s19 :: s20 :: s21 :: s22 :: s23 :: s24 :: s25 :: s26 :: s27 :: s28 :: s29 :: s30 :: s31 :: s32 :: s33 :: s34 :: s35 :: s36 :: s37 :: s38 :: s39 :: s40 :: s41 :: s42 :: s43 :: s44 :: s45 :: s46 :: s47 :: s48 :: s49 :: s50 :: s51 :: s52 :: s53 :: s54 :: s55 :: s56 :: s57 :: s58 :: s59 :: s60 :: []), defers := [] } V := by
  have HR := Lib.hid hR
  have HV := Lib.hid (And.intro hv (And.intro hc hs))
  have HX := Lib.hid (And.intro hC (And.intro hK hbx))
  obtain ⟨x, ok, hlk, hx⟩ := hK.look hc
  have HXX := Lib.hid hx
  clear hR hv hc hC hK hbx hs hx
  conv => arg 2; whnf
  refine wp_seq_hid ?_
  intro K3 HK3
  have v0 : ∀ y : Aft V.heap.size V, y.v.cell? ⟨bx, 0, none⟩ = some (.int .u64 c.1) := fun y => by rw [cell_of_heap ((y.h.block _ (heap_lt HX.out.2.2)).trans HX.out.2.2)]; rfl
  have v1 : ∀ y : Aft V.heap.size V, y.v.cell? ⟨bx, 1, none⟩ = some (.int .u64 c.2) := fun y => by rw [cell_of_heap ((y.h.block _ (heap_lt HX.out.2.2)).trans HX.out.2.2)]; rfl
  have v6 : ∀ y : Aft V.heap.size V, y.v.cell? ⟨cb, 6, none⟩ = some (.map (some mb)) := fun y => by rw [cell_of_heap ((y.h.block _ (heap_lt HX.out.1.h)).trans HX.out.1.h)]; rfl
  have vl : ∀ y : Aft V.heap.size V, (Instr.lookup 155 (.map (some mb)) (setV c) true).run Tryd.prog y.v = .ok (.tuple #[.bool x, .bool ok]) y.v := fun y => hlk y.v (y.h.block _ HX.out.2.1.lt)
  clear hlk
  refine wp_region_aft mixed (by kernel_rfl) ?_
  repeat (go_big_quiet_step (fail))
  refine wpQuiet_nil ?_
  rintro _ ⟨y, rfl⟩
  refine HK3.out _ _ ?_
  clear HK3 K3 v0 v1 v6 vl
  have HY : Hid (CanC r p al cl ar cr mb cb y.v ∧ KnownW r y.v mb ∧ y.v.heap[bx]? = some (.cells #[.int .u64 c.1, .int .u64 c.2] 106 (0, 0)) ∧ Same (fun k => k = mb) w0 y.v) :=
    ⟨HX.out.1.mono y.h, HX.out.2.1.kept (y.h.block _ HX.out.2.1.lt), (y.h.block _ (heap_lt HX.out.2.2)).trans HX.out.2.2, HV.out.2.2.trans (Same.of_below _ y.h)⟩
  clear HX
  revert HY
  generalize y.v = V2
  clear y
  intro HY
  cases ok with
  | true =>
    have hx : x = (r.wo c).is := HXX.out rfl
    subst hx
    go_wp2_with fail
    exact HR.out _ HY.out.2.2.2 HY.out.2.1
  | false =>
    clear HXX
    refine wp_seq_hid ?_
    intro K4 HK4
    have u0 : V2.cell? ⟨bx, 0, none⟩ = some (.int .u64 c.1) := by rw [cell_of_heap HY.out.2.2.1]; rfl
    have u1 : V2.cell? ⟨bx, 1, none⟩ = some (.int .u64 c.2) := by rw [cell_of_heap HY.out.2.2.1]; rfl
    refine wp_seq_hid ?_
    intro K5 HK5
    go_wp2_with fail
    refine HK5.out _ _ ?_
    clear HK5 K5
    go_wp2_with fail
    refine (without114 HV.out.2.1 (rnums_of HV.out.1).l1 (rnums_of HV.out.1).l2 HY.out.1).mono ?_
    rintro e V3 ⟨q, z, rfl, hq, hz, hb3⟩
    have hF := (fewest7 (w := V3) (cl := q.2) (cr := z.2) (wo_valid HV.out.1 c) hq hz)
    have HF := Lib.hid hF
    have HB3 := Lib.hid hb3
    clear hF hq hz hb3 u0 u1
    go_wp2_with fail
    refine HF.out.mono ?_
    clear HF
    rintro e V4 ⟨hb4, (⟨his, rfl⟩ | ⟨his, q2, hd, rfl, _⟩)⟩
    all_goals
      have HB4 := Lib.hid (HB3.out.trans (hb4.mono HB3.out.size))
      have HI := Lib.hid his
      clear hb4 his
      go_upto_region 7 with fail
    all_goals
      have v0 : ∀ y : Aft V4.heap.size V4, y.v.cell? ⟨bx, 0, none⟩ = some (.int .u64 c.1) := fun y => by
        have h := HB4.out.trans (y.h.mono HB4.out.size)
        rw [cell_of_heap ((h.block _ (heap_lt HY.out.2.2.1)).trans HY.out.2.2.1)]; rfl
      have v1 : ∀ y : Aft V4.heap.size V4, y.v.cell? ⟨bx, 1, none⟩ = some (.int .u64 c.2) := fun y => by
        have h := HB4.out.trans (y.h.mono HB4.out.size)
        rw [cell_of_heap ((h.block _ (heap_lt HY.out.2.2.1)).trans HY.out.2.2.1)]; rfl
      have v6 : ∀ y : Aft V4.heap.size V4, y.v.cell? ⟨cb, 6, none⟩ = some (.map (some mb)) := fun y => by
        have h := HB4.out.trans (y.h.mono HB4.out.size)
        rw [cell_of_heap ((h.block _ (heap_lt HY.out.1.h)).trans HY.out.1.h)]; rfl
      refine wp_region_aft_tail 6 mixed (by kernel_rfl) ?_
      simp only [List.take_succ_cons, List.take_zero, List.drop_succ_cons, List.drop_zero]
      repeat (go_big_quiet_step (fail))
      refine wpQuiet_nil ?_
      rintro _ ⟨y, rfl⟩
      clear v0 v1 v6
      have hbel := HB4.out.trans (y.h.mono HB4.out.size)
      have hkn := HY.out.2.1.kept (hbel.block _ HY.out.2.1.lt)
      have hsm := HY.out.2.2.2.trans ((Same.of_below (fun k => k = mb) hbel).mono (fun _ _ e => e))
      revert hkn hsm
      clear hbel
      generalize y.v = V5
      clear y
      intro hkn hsm
      obtain ⟨W, hup, hsame, hkn2⟩ := hkn.update HV.out.2.1
      have HFIN := Lib.hid (HR.out W (hsm.trans (hsame.mono (fun _ _ e => e))) hkn2)
      rw [HI.out] at hup HFIN
      clear hkn hsm hsame hkn2 HR
      go_wp2_with fail
      refine HK4.out _ _ ?_
      clear HK4 K4
      go_wp2_with fail
      exact HFIN.out
set_option maxRecDepth 100000 in
set_option maxHeartbeats 8000000 in
theorem is106 {r : Rws} {p : Int} {al ar : Option Addr} {cl cr mb cb : Nat} {c : Nat × Nat} {w : World} (hv : r.valid = true) (hc : SetOk c) (hC : CanC r p al cl ar cr mb cb w) (hK : KnownW r w mb) :
    Calls Tryd.prog 106 #[.pointer (some ⟨cb, 0, none⟩), setV c] w fun e w' => e = .returned (.bool (r.caseE p c)) ∧ Same (fun k => k = mb) w w' ∧ KnownW r w' mb := by
  have HX : Hid ((w.alloc (.cells #[.int .u64 c.1, .int .u64 c.2] 106)).heap[w.heap.size]? = some (.cells #[.int .u64 c.1, .int .u64 c.2] 106 (0, 0)) ∧ CanC r p al cl ar cr mb cb (w.alloc (.cells #[.int .u64 c.1, .int .u64 c.2] 106)) ∧ KnownW r (w.alloc (.cells #[.int .u64 c.1, .int .u64 c.2] 106)) mb ∧ Same (fun k => k = mb) w (w.alloc (.cells #[.int .u64 c.1, .int .u64 c.2] 106)) ∧ mb < w.heap.size ∧ w.heap.size ≠ mb) :=
    ⟨World.alloc_heap_new _ _, hC.mono (alloc_below w _), hK.kept (Below.heap_alloc w _ _ hK.lt), (Same.refl _ w).alloc _, hK.lt, by have := hK.lt; omega⟩
  have HV := Lib.hid (And.intro hv hc)
  obtain ⟨n1, hn1⟩ : ∃ n1, ones c.1.testBit 10 = n1 := ⟨_, rfl⟩
  obtain ⟨n2, hn2⟩ : ∃ n2, ones c.2.testBit 10 = n2 := ⟨_, rfl⟩
  have HM1 : Hid (∀ v, Calls Tryd.prog 113 #[.int .u64 c.1] v fun e w' => e = .returned (.int .i64 n1) ∧ v = w') := fun v => (many113 hc.1 v).mono (by rintro e w' ⟨rfl, rfl⟩; rw [hn1]; exact ⟨rfl, rfl⟩)
  have HM2 : Hid (∀ v, Calls Tryd.prog 113 #[.int .u64 c.2] v fun e w' => e = .returned (.int .i64 n2) ∧ v = w') := fun v => (many113 hc.2 v).mono (by rintro e w' ⟨rfl, rfl⟩; rw [hn2]; exact ⟨rfl, rfl⟩)
  have b1 : (n1 : Int) ≤ 10 := by have := ones_le c.1.testBit 10; omega
  have b2 : (n2 : Int) ≤ 10 := by have := ones_le c.2.testBit 10; omega
  have HE : Hid (r.caseE p c = (!(decide (c.1 ≠ 0) && decide (c.2 ≠ 0)) && decide ((n1 : Int) + (n2 : Int) ≤ p) && (r.wo c).is)) := by unfold Rws.caseE; rw [hn1, hn2]; exact rfl
  have l1 := (rnums_of hv).l1
  have l2 := (rnums_of hv).l2
  have HL := Lib.hid (And.intro l1 l2)
  clear hC hK hv hc hn1 hn2 l1 l2
  go_enter Tryd.func106, Tryd.ntmps106
  refine wp_seq_hid ?_
  intro K0 HK0
  go_wp2_with fail
  refine HK0.out _ _ ?_
  clear HK0 K0
  revert HX
  generalize w.alloc (.cells #[.int .u64 c.1, .int .u64 c.2] 106) = w1
  generalize w.heap.size = bx
  intro HX
  have v0 : ∀ y : Aft w1.heap.size w1, y.v.cell? ⟨bx, 0, none⟩ = some (.int .u64 c.1) := fun y => by rw [cell_of_heap ((y.h.block _ (heap_lt HX.out.1)).trans HX.out.1)]; rfl
  have v1 : ∀ y : Aft w1.heap.size w1, y.v.cell? ⟨bx, 1, none⟩ = some (.int .u64 c.2) := fun y => by rw [cell_of_heap ((y.h.block _ (heap_lt HX.out.1)).trans HX.out.1)]; rfl
  have v5 : ∀ y : Aft w1.heap.size w1, y.v.cell? ⟨cb, 5, none⟩ = some (.int .i64 p) := fun y => by rw [cell_of_heap ((y.h.block _ (heap_lt HX.out.2.1.h)).trans HX.out.2.1.h)]; rfl
  have hcs : (c.1 ≠ 0 ∧ c.2 ≠ 0) ∨ (c.1 ≠ 0 ∧ c.2 = 0) ∨ c.1 = 0 := by omega
  rcases hcs with ⟨e1, e2⟩ | ⟨e1, e2⟩ | e1
  · have q1 : ((c.1 : Int) != 0) = true := by simpa using e1
    have q2 : ((c.2 : Int) != 0) = true := by simpa using e2
    have q1' : ¬ (c.1 : Int) = 0 := by omega
    have q2' : ¬ (c.2 : Int) = 0 := by omega
    refine wp_seq_hid ?_
    intro K1 HK1
    refine wp_seq_hid ?_
    intro K1b HK1b
    refine wp_region_aft mixed (by kernel_rfl) ?_
    repeat (go_big_quiet_step (fail))
    refine wpQuiet_nil ?_
    rintro _ ⟨y, rfl⟩
    refine HK1b.out _ _ ?_
    go_wp2_with fail
    go_ret
    refine ⟨?_, HX.out.2.2.2.1.trans (Same.of_below _ y.h), HX.out.2.2.1.kept (y.h.block _ HX.out.2.2.1.lt)⟩
    rw [HE.out]
    simp [e1, e2]
  · have e0 : ((c.1 : Int) != 0) = true := by simpa using e1
    have e3 : ((c.2 : Int) != 0) = false := by simpa using e2
    have e0' : ¬ (c.1 : Int) = 0 := by omega
    have e3' : (c.2 : Int) = 0 := by omega
    have HM0 : Hid (∀ v, Calls Tryd.prog 113 #[.int .u64 0] v fun e w' => e = .returned (.int .i64 n2) ∧ v = w') := by have h := HM2.out; rw [e3'] at h; exact h
    by_cases hp : (n1 : Int) + n2 > p
    · refine wp_seq_hid ?_
      intro K1 HK1
      refine wp_seq_hid ?_
      intro K1b HK1b
      refine wp_region_aft mixed (by kernel_rfl) ?_
      repeat (go_big_quiet_step (first | (go_at_call 113; exact calls_aft_same (HM1.out _)) | (go_at_call 113; exact calls_aft_same (HM2.out _)) | (go_at_call 113; exact calls_aft_same (HM0.out _))))
      refine wpQuiet_nil ?_
      rintro _ ⟨y, rfl⟩
      refine HK1b.out _ _ ?_
      go_wp2_with fail
      go_ret
      refine ⟨?_, HX.out.2.2.2.1.trans (Same.of_below _ y.h), HX.out.2.2.1.kept (y.h.block _ HX.out.2.2.1.lt)⟩
      rw [HE.out]
      have hp2 : ¬ ((n1 : Int) + n2 ≤ p) := by omega
      simp [hp2]
    · refine wp_seq_hid ?_
      intro K1 HK1
      refine wp_seq_hid ?_
      intro K1b HK1b
      refine wp_region_aft mixed (by kernel_rfl) ?_
      repeat (go_big_quiet_step (first | (go_at_call 113; exact calls_aft_same (HM1.out _)) | (go_at_call 113; exact calls_aft_same (HM2.out _)) | (go_at_call 113; exact calls_aft_same (HM0.out _))))
      refine wpQuiet_nil ?_
      rintro _ ⟨y, rfl⟩
      refine HK1b.out _ _ ?_
      go_wp2_with fail
      refine HK1.out _ _ ?_
      refine is3 (w0 := w) HV.out.1 HV.out.2 (HX.out.2.1.mono y.h) (HX.out.2.2.1.kept (y.h.block _ HX.out.2.2.1.lt)) ((y.h.block _ (heap_lt HX.out.1)).trans HX.out.1) (HX.out.2.2.2.1.trans (Same.of_below _ y.h)) (fun W h1 h2 => ⟨?_, h1, h2⟩)
      have hE := HE.out
      have hp2 : (n1 : Int) + n2 ≤ p := by omega
      rw [hE]
      simp [hp2, e2]
  · have e0 : ((c.1 : Int) != 0) = false := by simpa using e1
    have e0' : (c.1 : Int) = 0 := by omega
    have HM0 : Hid (∀ v, Calls Tryd.prog 113 #[.int .u64 0] v fun e w' => e = .returned (.int .i64 n1) ∧ v = w') := by have h := HM1.out; rw [e0'] at h; exact h
    by_cases hp : (n1 : Int) + n2 > p
    · refine wp_seq_hid ?_
      intro K1 HK1
      refine wp_seq_hid ?_
      intro K1b HK1b
      refine wp_region_aft mixed (by kernel_rfl) ?_
      repeat (go_big_quiet_step (first | (go_at_call 113; exact calls_aft_same (HM1.out _)) | (go_at_call 113; exact calls_aft_same (HM2.out _)) | (go_at_call 113; exact calls_aft_same (HM0.out _))))
      refine wpQuiet_nil ?_
      rintro _ ⟨y, rfl⟩
      refine HK1b.out _ _ ?_
      go_wp2_with fail
      go_ret
      refine ⟨?_, HX.out.2.2.2.1.trans (Same.of_below _ y.h), HX.out.2.2.1.kept (y.h.block _ HX.out.2.2.1.lt)⟩
      rw [HE.out]
      have hp2 : ¬ ((n1 : Int) + n2 ≤ p) := by omega
      simp [hp2]
    · refine wp_seq_hid ?_
      intro K1 HK1
      refine wp_seq_hid ?_
      intro K1b HK1b
      refine wp_region_aft mixed (by kernel_rfl) ?_
      repeat (go_big_quiet_step (first | (go_at_call 113; exact calls_aft_same (HM1.out _)) | (go_at_call 113; exact calls_aft_same (HM2.out _)) | (go_at_call 113; exact calls_aft_same (HM0.out _))))
      refine wpQuiet_nil ?_
      rintro _ ⟨y, rfl⟩
      refine HK1b.out _ _ ?_
      go_wp2_with fail
      refine HK1.out _ _ ?_
      refine is3 (w0 := w) HV.out.1 HV.out.2 (HX.out.2.1.mono y.h) (HX.out.2.2.1.kept (y.h.block _ HX.out.2.2.1.lt)) ((y.h.block _ (heap_lt HX.out.1)).trans HX.out.1) (HX.out.2.2.2.1.trans (Same.of_below _ y.h)) (fun W h1 h2 => ⟨?_, h1, h2⟩)
      have hE := HE.out
      have hp2 : (n1 : Int) + n2 ≤ p := by omega
      rw [hE]
      simp [hp2, e1]
end Go.Proofs.YtbnhngfegnhaiaaDoor
