/- How many ways there are: the walk. Chains of pairs: what the table says of them, and the plain law of TopMarks. The powers with which a thing stands still: the drawn regions. The powers with which a thing stands still. Is a thing valid? Is one of some not? Is a pair valid? -/
import Derived.Test.YtbnhngfegnhaiaaDoorC6
import Derived.Laws.EntriesVeiled
namespace Go.Proofs.YtbnhngfegnhaiaaDoor
open Go.RowKit
set_option linter.unusedVariables false
set_option linter.unusedSimpArgs false
theorem on69 {r : Rws} {al ar : Option Addr} {cl cr : Nat} {T : Nat → Bool} {need : Int} {mx rx sx mb b : Nat} (hl1 : r.left.length ≤ 10) (hl2 : r.right.length ≤ 10) : ∀ (d : Nat) (s : StV) (w : World), r.left.length - s.i ≤ d → s.Ok → CntC r al cl ar cr T need mx rx sx mb b w → KnownC (fun a c => T (a * 10 + c)) r.left.length r.right.length w mb →
    Calls Tryd.prog 98 #[s.v, .pointer (some ⟨mx, 0, none⟩), .pointer (some ⟨rx, 0, none⟩), .pointer (some ⟨sx, 0, none⟩)] w fun e w' => e = .returned (.int .i64 (valV (fun a c => T (a * 10 + c)) r.left.length r.right.length s)) ∧ Same (fun k => k = mb) w w' ∧ KnownC (fun a c => T (a * 10 + c)) r.left.length r.right.length w' mb
  | 0, s, w, h, hs, hc, hk => on69_step hl1 hl2 hs hc hk (fun t w' h1 h2 _ _ _ => by omega)
  | d + 1, s, w, h, hs, hc, hk => on69_step hl1 hl2 hs hc hk (fun t w' h1 h2 ht hc' hk' => on69 hl1 hl2 d t w' (by omega) ht hc' hk')
theorem KnownC.made (F : Nat → Nat → Bool) (n m : Nat) {w : World} {mb : Nat} (h : w.heap[mb]? = some (.map #[] 0)) : KnownC F n m w mb :=
  ⟨[], ⟨#[], 0, h, MapKept.stamped_empty 0, rfl, by simp⟩, fun X hX => by simp at hX⟩
theorem need105 {w : World} {b : Nat} {r : Rws} {al ar : Option Addr} {cl cr : Nat} {T : Nat → Bool} {need : Int} (h : IsRws w b r al cl ar cr T need) : w.cell? ⟨b, 105, none⟩ = some (.int .i64 need) := by
  rw [cell_of_heap h.h]
  rfl
theorem pairs_congr {F G : Nat → Nat → Bool} {n m : Nat} (h : ∀ a b, a < n → b < m → F a b = G a b) (i k : Nat) : pairsFrom F n m i k = pairsFrom G n m i k := by
  unfold pairsFrom
  rw [List.flatMap_def, List.flatMap_def]
  congr 1
  apply List.map_congr_left
  intro a ha
  rw [List.mem_range'_1] at ha
  rw [List.filter_congr (fun b hb => h a b (by omega) (by rw [List.mem_range'_1] at hb; omega))]
theorem cntF_congr {F G : Nat → Nat → Bool} {n m : Nat} (h : ∀ a b, a < n → b < m → F a b = G a b) : ∀ (f i k : Nat) (d : Int), cntF F n m f i k d = cntF G n m f i k d
  | 0, _, _, _ => rfl
  | f + 1, i, k, d => by
    unfold cntF
    rw [pairs_congr h i k]
    congr 2
    apply List.map_congr_left
    intro p _
    exact cntF_congr h f _ _ _
set_option maxRecDepth 100000 in
set_option maxHeartbeats 8000000 in
theorem count47 {r : Rws} {al ar : Option Addr} {cl cr : Nat} {T : Nat → Bool} {need : Int} {b : Nat} {w : World} (hl1 : r.left.length ≤ 10) (hl2 : r.right.length ≤ 10) (hn : need ≤ 1000) (hR : IsRws w b r al cl ar cr T need) :
    Calls Tryd.prog 60 #[.pointer (some ⟨b, 0, none⟩)] w fun e w' => e = .returned (.int .i64 (cntV (fun a c => T (a * 10 + c)) r.left.length r.right.length 0 0 (max 0 need))) ∧ Below w.heap.size w w' := by
  have hmf : ∀ (fn : Fn) (first cap : Array Value) (w : World), (Instr.makeFunc fn first cap).run Tryd.prog w = .ok (.func fn first cap) w := fun _ _ _ _ => rfl
  have hmk : ∀ w : World, (Instr.makeMap 173 none).run Tryd.prog w = .ok (.map (some w.heap.size)) (w.alloc (.map #[] 0)) := fun w => by kernel_rfl
  have HR := Lib.hid hR
  have HL := Lib.hid (And.intro hl1 (And.intro hl2 hn))
  clear hR hl1 hl2 hn
  go_enter Tryd.func60, Tryd.ntmps60
  refine wp_seq_hid ?_
  intro K0 HK0
  go_wp2_with fail
  refine HK0.out _ _ ?_
  clear HK0 K0
  refine wp_seq_hid ?_
  intro K1 HK1
  go_wp2_with fail
  refine HK1.out _ _ ?_
  clear HK1 K1
  refine wp_seq_hid ?_
  intro K2 HK2
  go_wp2_with fail
  refine HK2.out _ _ ?_
  clear HK2 K2
  have HA : Hid (∀ W, W = (((w.alloc (.cells #[.pointer (some ⟨b, 0, none⟩)] 68)).alloc (.map #[] 0)).alloc (.cells #[.map (some (w.heap.size + 1))] 173)).alloc (.cells #[.nilFunc] 174) → W.heap.size = w.heap.size + 4 ∧ W.heap[w.heap.size]? = some (.cells #[.pointer (some ⟨b, 0, none⟩)] 68 (0, 0)) ∧ W.heap[w.heap.size + 1]? = some (.map #[] 0) ∧ W.heap[w.heap.size + 1 + 1]? = some (.cells #[.map (some (w.heap.size + 1))] 173 (0, 0)) ∧ W.heap[w.heap.size + 1 + 1 + 1]? = some (.cells #[.nilFunc] 174 (0, 0)) ∧ Below w.heap.size w W) := fun W hW => by
    subst hW
    refine ⟨by simp, ?_, ?_, ?_, ?_, ?_⟩
    · rw [Below.heap_alloc _ _ _ (by simp; omega), Below.heap_alloc _ _ _ (by simp; omega), Below.heap_alloc _ _ _ (by simp)]
      exact World.alloc_heap_new _ _
    · rw [Below.heap_alloc _ _ _ (by simp), Below.heap_alloc _ _ _ (by simp)]
      have h := World.alloc_heap_new (w.alloc (.cells #[.pointer (some ⟨b, 0, none⟩)] 68)) (.map #[] 0)
      rw [World.size_alloc] at h
      exact h
    · rw [Below.heap_alloc _ _ _ (by simp)]
      have h := World.alloc_heap_new ((w.alloc (.cells #[.pointer (some ⟨b, 0, none⟩)] 68)).alloc (.map #[] 0)) (.cells #[.map (some (w.heap.size + 1))] 173)
      rw [World.size_alloc, World.size_alloc] at h
      exact h
    · have h := World.alloc_heap_new (((w.alloc (.cells #[.pointer (some ⟨b, 0, none⟩)] 68)).alloc (.map #[] 0)).alloc (.cells #[.map (some (w.heap.size + 1))] 173)) (.cells #[.nilFunc] 174)
      rw [World.size_alloc, World.size_alloc, World.size_alloc] at h
      exact h
    · exact ((((Below.refl _ _).alloc (Nat.le_refl _) _).alloc (by simp) _).alloc (by simp; omega) _).alloc (by simp; omega) _
  revert HA
  generalize (((w.alloc (.cells #[.pointer (some ⟨b, 0, none⟩)] 68)).alloc (.map #[] 0)).alloc (.cells #[.map (some (w.heap.size + 1))] 173)).alloc (.cells #[.nilFunc] 174) = W
  intro HA
  have HA := Lib.hid (HA.out W rfl)
  have cs : W.cell? ⟨w.heap.size + 1 + 1 + 1, 0, none⟩ = some .nilFunc := by rw [cell_of_heap HA.out.2.2.2.2.1]; rfl
  have fs : W.frozen? ⟨w.heap.size + 1 + 1 + 1, 0, none⟩ = false := frozen_of_heap HA.out.2.2.2.2.1
  refine wp_seq_hid ?_
  intro K3 HK3
  go_wp2_with fail
  refine HK3.out _ _ ?_
  clear HK3 K3 cs fs
  have HB : Hid (Below w.heap.size w (W.setCell ⟨w.heap.size + 1 + 1 + 1, 0, none⟩ (.func (.func 98) #[] #[.pointer (some ⟨w.heap.size + 1 + 1, 0, none⟩), .pointer (some ⟨w.heap.size, 0, none⟩), .pointer (some ⟨w.heap.size + 1 + 1 + 1, 0, none⟩)])) ∧ CntC r al cl ar cr T need (w.heap.size + 1 + 1) w.heap.size (w.heap.size + 1 + 1 + 1) (w.heap.size + 1) b (W.setCell ⟨w.heap.size + 1 + 1 + 1, 0, none⟩ (.func (.func 98) #[] #[.pointer (some ⟨w.heap.size + 1 + 1, 0, none⟩), .pointer (some ⟨w.heap.size, 0, none⟩), .pointer (some ⟨w.heap.size + 1 + 1 + 1, 0, none⟩)])) ∧ KnownC (fun a c => T (a * 10 + c)) r.left.length r.right.length (W.setCell ⟨w.heap.size + 1 + 1 + 1, 0, none⟩ (.func (.func 98) #[] #[.pointer (some ⟨w.heap.size + 1 + 1, 0, none⟩), .pointer (some ⟨w.heap.size, 0, none⟩), .pointer (some ⟨w.heap.size + 1 + 1 + 1, 0, none⟩)])) (w.heap.size + 1)) := by
    obtain ⟨g0, g1, g2, g3, g4, g5⟩ := HA.out
    have hb : Below w.heap.size w (W.setCell ⟨w.heap.size + 1 + 1 + 1, 0, none⟩ (.func (.func 98) #[] #[.pointer (some ⟨w.heap.size + 1 + 1, 0, none⟩), .pointer (some ⟨w.heap.size, 0, none⟩), .pointer (some ⟨w.heap.size + 1 + 1 + 1, 0, none⟩)])) := g5.setCell (p := ⟨w.heap.size + 1 + 1 + 1, 0, none⟩) (by show w.heap.size ≤ w.heap.size + 1 + 1 + 1; omega) _
    have e1 : w.heap.size ≠ w.heap.size + 1 + 1 + 1 := by omega
    have e2 : w.heap.size + 1 ≠ w.heap.size + 1 + 1 + 1 := by omega
    have e3 : w.heap.size + 1 + 1 ≠ w.heap.size + 1 + 1 + 1 := by omega
    exact ⟨hb, ⟨(Below.heap_setCell _ _ _ _ e3).trans g3, (Below.heap_setCell _ _ _ _ e1).trans g1, heap_setCell_at (k := 0) g4 _, HR.out.mono hb⟩, KnownC.made _ _ _ ((Below.heap_setCell _ _ _ _ e2).trans g2)⟩
  have HZ : Hid (w.heap.size + 4 ≤ (W.setCell ⟨w.heap.size + 1 + 1 + 1, 0, none⟩ (.func (.func 98) #[] #[.pointer (some ⟨w.heap.size + 1 + 1, 0, none⟩), .pointer (some ⟨w.heap.size, 0, none⟩), .pointer (some ⟨w.heap.size + 1 + 1 + 1, 0, none⟩)])).heap.size) := by
    have := HA.out.1
    simp [Hid]
    omega
  revert HB HZ
  generalize W.setCell ⟨w.heap.size + 1 + 1 + 1, 0, none⟩ (.func (.func 98) #[] #[.pointer (some ⟨w.heap.size + 1 + 1, 0, none⟩), .pointer (some ⟨w.heap.size, 0, none⟩), .pointer (some ⟨w.heap.size + 1 + 1 + 1, 0, none⟩)]) = V
  intro HB HZ
  clear HA
  have hz := HZ.out
  refine wp_seq_hid ?_
  intro K4 HK4
  refine wpIn_wide.1 (cnt4 (b := b) (t1 := w.heap.size) (mx := w.heap.size + 1 + 1) (rx := w.heap.size) (sx := w.heap.size + 1 + 1 + 1) (nd := need) (v := cntV (fun a c => T (a * 10 + c)) r.left.length r.right.length 0 0 (max 0 need)) (S0 := fun v => Below V.heap.size V v) (S1 := fun _ v => Same (fun k => k = w.heap.size + 1) V v) ?h0 ?l0 ?l1 ?l4 ?c7 ?hQ)
  case h0 => exact (Below.refl _ _).drew
  case l0 => exact fun v h => by rw [cell_of_heap ((h.block _ (heap_lt HB.out.2.1.hsx)).trans HB.out.2.1.hsx)]; rfl
  case l1 => exact fun v h => by rw [cell_of_heap ((h.block _ (heap_lt HB.out.2.1.hrx)).trans HB.out.2.1.hrx)]; rfl
  case l4 => exact fun v h => need105 (HB.out.2.1.rows.mono h)
  case c7 =>
    intro v h
    have hl := HL.out
    have hs := Same.of_below (fun k => k = w.heap.size + 1) h
    refine (on69 HL.out.1 HL.out.2.1 _ ⟨0, 0, max 0 need⟩ v (Nat.le_refl _) ⟨by simp, by simp, by simp only; omega, by simp only; omega⟩ (HB.out.2.1.same HB.out.2.2.map hs) (HB.out.2.2.kept (h.block _ HB.out.2.2.lt))).mono ?_
    rintro e v' ⟨rfl, hs', _⟩
    exact ⟨(), rfl, hs.trans hs'⟩
  case hQ =>
    intro u w' hs
    refine HK4.out _ _ ?_
    go_wp2_with fail
    refine bodyPost_ret (results_tmp rfl _ _ _) rfl ⟨rfl, HB.out.1.trans (hs.below (by omega) (fun k hk e => by omega))⟩
theorem need_le {r : Rws} (hn : r.Nums) : r.need ≤ 1000 := by
  have h1 := hn.l1
  have h2 := hn.l2
  have h3 := hn.h1
  unfold Rws.need
  have h4 : ((r.left.length : Int) + r.right.length - r.hidden + 1).tdiv 2 ≤ Int.tdiv 100 2 := Int.tdiv_le_tdiv (by omega) (by omega)
  have h5 : Int.tdiv 100 2 = 50 := by decide
  omega
theorem cnt_fit {r : Rws} (h2 : r.right.length ≤ 10) : cntV (fun a b => (fun j => r.fit (j / 10) (j % 10)) (a * 10 + b)) r.left.length r.right.length 0 0 (max 0 r.need) = r.count := by
  have hF : ∀ a b, a < r.left.length → b < r.right.length → (fun a b => (fun j => r.fit (j / 10) (j % 10)) (a * 10 + b)) a b = r.fit a b := fun a b _ hb => by
    show r.fit ((a * 10 + b) / 10) ((a * 10 + b) % 10) = r.fit a b
    rw [show (a * 10 + b) / 10 = a by omega, show (a * 10 + b) % 10 = b by omega]
  exact cntF_congr hF _ _ _ _
set_option maxRecDepth 100000 in
set_option maxHeartbeats 8000000 in
theorem count33 {r : Rws} {al ar : Option Addr} {cl cr : Nat} {w : World} (hv : r.valid = true) (h1 : IsMks w al r.left) (h2 : IsMks w ar r.right) :
    Calls Tryd.prog 19 #[r.v al cl ar cr] w fun e w' => e = .returned (.tuple #[.int .i64 r.count, .int .i64 0]) ∧ Below w.heap.size w w' := by
  have HX := Lib.hid (And.intro (World.alloc_heap_new w (.cells (r.arr al cl ar cr) 26)) (And.intro (alloc_below w (.cells (r.arr al cl ar cr) 26)) (And.intro (h1.mono (alloc_below w (.cells (r.arr al cl ar cr) 26))) (h2.mono (alloc_below w (.cells (r.arr al cl ar cr) 26))))))
  have HV := Lib.hid (And.intro hv (rnums_of hv))
  clear hv h1 h2
  go_enter Tryd.func19, Tryd.ntmps19
  refine wp_seq_hid ?_
  intro K0 HK0
  go_wp2_with fail
  refine HK0.out _ _ ?_
  clear HK0 K0
  revert HX
  generalize w.alloc (.cells (r.arr al cl ar cr) 26) = w1
  generalize hb : w.heap.size = b1
  intro HX
  have HLT : Hid (b1 ≤ w1.heap.size) := Nat.le_of_lt (heap_lt HX.out.1)
  have KF : Hid (∀ v, Below w1.heap.size w1 v → v.heap[b1]? = some (.cells (r.arr al cl ar cr) 26 (0, 0)) ∧ Below b1 w v ∧ IsMks v al r.left ∧ IsMks v ar r.right) := fun v hv =>
    ⟨(hv.block _ (heap_lt HX.out.1)).trans HX.out.1, HX.out.2.1.trans (hv.mono HLT.out), HX.out.2.2.1.mono hv, HX.out.2.2.2.mono hv⟩
  have HR0 := Lib.hid (Below.refl w1.heap.size w1)
  clear hb
  have hl0 : ∀ v, Below w1.heap.size w1 v → v.cell? ⟨b1, 0, none⟩ = some (.slice al r.left.length cl) := fun v hv => by rw [cell_of_heap (KF.out v hv).1]; rfl
  have hl1 : ∀ v, Below w1.heap.size w1 v → v.cell? ⟨b1, 1, none⟩ = some (.slice ar r.right.length cr) := fun v hv => by rw [cell_of_heap (KF.out v hv).1]; rfl
  have hl2 : ∀ v, Below w1.heap.size w1 v → v.cell? ⟨b1, 2, none⟩ = some (.int .i64 r.shift.lo) := fun v hv => by rw [cell_of_heap (KF.out v hv).1]; rfl
  have hl3 : ∀ v, Below w1.heap.size w1 v → v.cell? ⟨b1, 3, none⟩ = some (.int .i64 r.shift.hi) := fun v hv => by rw [cell_of_heap (KF.out v hv).1]; rfl
  have hl4 : ∀ v, Below w1.heap.size w1 v → v.cell? ⟨b1, 4, none⟩ = some (.int .i64 r.hidden) := fun v hv => by rw [cell_of_heap (KF.out v hv).1]; rfl
  have HLD := Lib.hid (And.intro hl0 (And.intro hl1 (And.intro hl2 (And.intro hl3 hl4))))
  clear hl0 hl1 hl2 hl3 hl4
  refine wp_seq_hid ?_
  intro K1 HK1
  have m0 := HLD.out.1 w1 HR0.out
  have m1 := HLD.out.2.1 w1 HR0.out
  have m2 := HLD.out.2.2.1 w1 HR0.out
  have m3 := HLD.out.2.2.2.1 w1 HR0.out
  have m4 := HLD.out.2.2.2.2 w1 HR0.out
  go_wp2_with fail
  refine (isRows45 HV.out.1 (KF.out w1 HR0.out).2.2.1 (KF.out w1 HR0.out).2.2.2).mono ?_
  rintro e w2 ⟨rfl, hb⟩
  have HB2 := Lib.hid hb
  clear hb m0 m1 m2 m3 m4
  go_wp2_with fail
  refine HK1.out _ _ ?_
  clear HK1 K1
  have m0 := HLD.out.1 w2 HB2.out
  have m1 := HLD.out.2.1 w2 HB2.out
  have m2 := HLD.out.2.2.1 w2 HB2.out
  have m3 := HLD.out.2.2.2.1 w2 HB2.out
  have m4 := HLD.out.2.2.2.2 w2 HB2.out
  go_wp2_with fail
  refine (look46 HV.out.2 (KF.out w2 HB2.out).2.2.1 (KF.out w2 HB2.out).2.2.2).mono ?_
  rintro e w3 ⟨b, rfl, hlt, hR, hb⟩
  have HB3 := Lib.hid (And.intro hR (HB2.out.trans (hb.mono HB2.out.size)))
  clear hR hb m0 m1 m2 m3 m4
  go_wp2_with fail
  refine (count47 HV.out.2.l1 HV.out.2.l2 (need_le HV.out.2) HB3.out.1).mono ?_
  rintro e w4 ⟨rfl, hb⟩
  rw [cnt_fit HV.out.2.l2]
  have HB4 := Lib.hid (HB3.out.2.trans (hb.mono HB3.out.2.size))
  clear hb
  go_wp2_with fail
  go_ret2
  exact ⟨rfl, (KF.out w4 HB4.out).2.1⟩
end Go.Proofs.YtbnhngfegnhaiaaDoor
namespace Go.Proofs.YtbnhngfegnhaiaaDoor
def chain (F : Nat → Nat → Bool) (n m : Nat) : Nat → Nat → List (Nat × Nat) → Prop
  | _, _, [] => True
  | i, k, p :: t => i ≤ p.1 ∧ p.1 < n ∧ k ≤ p.2 ∧ p.2 < m ∧ F p.1 p.2 = true ∧ chain F n m (p.1 + 1) (p.2 + 1) t
theorem ms_a0 (F : Nat → Nat → Bool) (n m b : Nat) : mst F n m 0 b = 0 := rfl
theorem ms_b0 (F : Nat → Nat → Bool) (n m : Nat) : ∀ a, mst F n m a 0 = 0
  | 0 => rfl
  | _ + 1 => rfl
theorem ms_step (F : Nat → Nat → Bool) (n m a b : Nat) : mst F n m (a + 1) (b + 1) = if F (n - (a + 1)) (m - (b + 1)) then max (max (mst F n m a (b + 1)) (mst F n m (a + 1) b)) (1 + mst F n m a b) else max (mst F n m a (b + 1)) (mst F n m (a + 1) b) := rfl
theorem ms_left (F : Nat → Nat → Bool) (n m a : Nat) : ∀ b, mst F n m a b ≤ mst F n m (a + 1) b
  | 0 => by rw [ms_b0, ms_b0]; exact Nat.le_refl 0
  | b + 1 => by
    rw [ms_step]
    by_cases h : F (n - (a + 1)) (m - (b + 1)) = true
    · rw [if_pos h]; omega
    · rw [if_neg h]; omega
theorem ms_right (F : Nat → Nat → Bool) (n m b : Nat) : ∀ a, mst F n m a b ≤ mst F n m a (b + 1)
  | 0 => by rw [ms_a0, ms_a0]; exact Nat.le_refl 0
  | a + 1 => by
    rw [ms_step]
    by_cases h : F (n - (a + 1)) (m - (b + 1)) = true
    · rw [if_pos h]; omega
    · rw [if_neg h]; omega
theorem ms_take {F : Nat → Nat → Bool} {n m a b : Nat} (h : F (n - (a + 1)) (m - (b + 1)) = true) : 1 + mst F n m a b ≤ mst F n m (a + 1) (b + 1) := by
  rw [ms_step, if_pos h]; omega
theorem ms_up (F : Nat → Nat → Bool) (n m a b : Nat) : ∀ c d, mst F n m a b ≤ mst F n m (a + c) (b + d)
  | 0, 0 => Nat.le_refl _
  | 0, d + 1 => Nat.le_trans (ms_up F n m a b 0 d) (ms_right F n m (b + d) (a + 0))
  | c + 1, d => Nat.le_trans (ms_up F n m a b c d) (ms_left F n m (a + c) (b + d))
theorem ms_mono {F : Nat → Nat → Bool} {n m a b c d : Nat} (h1 : a ≤ c) (h2 : b ≤ d) : mst F n m a b ≤ mst F n m c d := by
  have := ms_up F n m a b (c - a) (d - b)
  rwa [show a + (c - a) = c by omega, show b + (d - b) = d by omega] at this
theorem chain_le {F : Nat → Nat → Bool} {n m : Nat} : ∀ {l : List (Nat × Nat)} {i k : Nat}, chain F n m i k l → l.length ≤ mst F n m (n - i) (m - k)
  | [], _, _, _ => Nat.zero_le _
  | p :: t, i, k, h => by
    obtain ⟨h1, h2, h3, h4, h5, h6⟩ := h
    have e := chain_le h6
    have e2 : F (n - ((n - (p.1 + 1)) + 1)) (m - ((m - (p.2 + 1)) + 1)) = true := by
      rw [show n - ((n - (p.1 + 1)) + 1) = p.1 by omega, show m - ((m - (p.2 + 1)) + 1) = p.2 by omega]; exact h5
    have e3 := ms_take (F := F) (n := n) (m := m) (a := n - (p.1 + 1)) (b := m - (p.2 + 1)) e2
    have e4 := ms_mono (F := F) (n := n) (m := m) (a := n - (p.1 + 1) + 1) (b := m - (p.2 + 1) + 1) (c := n - i) (d := m - k) (by omega) (by omega)
    simp only [List.length_cons]
    omega
theorem ms_pick (F : Nat → Nat → Bool) (n m : Nat) : ∀ (a b x : Nat), a ≤ n → b ≤ m → mst F n m a b = x + 1 → ∃ i k, n - a ≤ i ∧ i < n ∧ m - b ≤ k ∧ k < m ∧ F i k = true ∧ mst F n m (n - (i + 1)) (m - (k + 1)) = x
  | 0, b, x, _, _, h => by rw [ms_a0] at h; omega
  | a + 1, 0, x, _, _, h => by rw [ms_b0] at h; omega
  | a + 1, b + 1, x, ha, hb, h => by
    by_cases h1 : mst F n m a (b + 1) = x + 1
    · obtain ⟨i, k, g1, g2, g3, g4, g5, g6⟩ := ms_pick F n m a (b + 1) x (by omega) hb h1
      exact ⟨i, k, by omega, g2, g3, g4, g5, g6⟩
    · by_cases h2 : mst F n m (a + 1) b = x + 1
      · obtain ⟨i, k, g1, g2, g3, g4, g5, g6⟩ := ms_pick F n m (a + 1) b x ha (by omega) h2
        exact ⟨i, k, g1, g2, by omega, g4, g5, g6⟩
      · rw [ms_step] at h
        by_cases h3 : F (n - (a + 1)) (m - (b + 1)) = true
        · rw [if_pos h3] at h
          refine ⟨n - (a + 1), m - (b + 1), by omega, by omega, by omega, by omega, h3, ?_⟩
          rw [show n - (n - (a + 1) + 1) = a by omega, show m - (m - (b + 1) + 1) = b by omega]
          omega
        · rw [if_neg h3] at h
          omega
theorem mem_pairs {F : Nat → Nat → Bool} {n m i k : Nat} {p : Nat × Nat} : p ∈ pairsFrom F n m i k ↔ i ≤ p.1 ∧ p.1 < n ∧ k ≤ p.2 ∧ p.2 < m ∧ F p.1 p.2 = true := by
  unfold pairsFrom
  rw [List.mem_flatMap]
  constructor
  · rintro ⟨a, ha, hp⟩
    rw [List.mem_map] at hp
    obtain ⟨b, hb, rfl⟩ := hp
    rw [List.mem_filter] at hb
    rw [List.mem_range'_1] at ha hb
    exact ⟨by omega, by omega, by omega, by omega, hb.2⟩
  · rintro ⟨h1, h2, h3, h4, h5⟩
    refine ⟨p.1, by rw [List.mem_range'_1]; omega, ?_⟩
    rw [List.mem_map]
    exact ⟨p.2, by rw [List.mem_filter, List.mem_range'_1]; exact ⟨by omega, h5⟩, rfl⟩
/-- Is this the next pair of a way with so many more? -/
def goodP (F : Nat → Nat → Bool) (n m x : Nat) (p : Nat × Nat) : Bool := decide (1 + mst F n m (n - (p.1 + 1)) (m - (p.2 + 1)) = x)
/-- The way with the fewest hidden marks: from two marks on, with so many pairs. -/
def fewL (F : Nat → Nat → Bool) (n m : Nat) : Nat → Nat → Nat → List (Nat × Nat)
  | 0, _, _ => []
  | x + 1, i, k => match (pairsFrom F n m i k).find? (goodP F n m (x + 1)) with
    | some p => p :: fewL F n m x (p.1 + 1) (p.2 + 1)
    | none => fewL F n m x i k
theorem few_find {F : Nat → Nat → Bool} {n m i k x : Nat} (hi : i ≤ n) (hk : k ≤ m) (h : mst F n m (n - i) (m - k) = x + 1) :
    ∃ p, (pairsFrom F n m i k).find? (goodP F n m (x + 1)) = some p ∧ i ≤ p.1 ∧ p.1 < n ∧ k ≤ p.2 ∧ p.2 < m ∧ F p.1 p.2 = true ∧ mst F n m (n - (p.1 + 1)) (m - (p.2 + 1)) = x := by
  cases hf : (pairsFrom F n m i k).find? (goodP F n m (x + 1)) with
  | none =>
    exfalso
    obtain ⟨a, b, g1, g2, g3, g4, g5, g6⟩ := ms_pick F n m _ _ x (by omega) (by omega) h
    rw [List.find?_eq_none] at hf
    refine hf (a, b) (mem_pairs.2 ⟨by omega, g2, by omega, g4, g5⟩) ?_
    simp only [goodP, decide_eq_true_eq]
    omega
  | some p =>
    have h1 := List.mem_of_find?_eq_some hf
    have h2 := List.find?_some hf
    simp only [goodP, decide_eq_true_eq] at h2
    obtain ⟨g1, g2, g3, g4, g5⟩ := mem_pairs.1 h1
    exact ⟨p, rfl, g1, g2, g3, g4, g5, by omega⟩
theorem few_ok {F : Nat → Nat → Bool} {n m : Nat} : ∀ (x i k : Nat), i ≤ n → k ≤ m → mst F n m (n - i) (m - k) = x → chain F n m i k (fewL F n m x i k) ∧ (fewL F n m x i k).length = x
  | 0, _, _, _, _, _ => ⟨trivial, rfl⟩
  | x + 1, i, k, hi, hk, h => by
    obtain ⟨p, hf, g1, g2, g3, g4, g5, g6⟩ := few_find hi hk h
    obtain ⟨h1, h2⟩ := few_ok x (p.1 + 1) (p.2 + 1) (by omega) (by omega) g6
    unfold fewL
    rw [hf]
    exact ⟨⟨g1, g2, g3, g4, g5, h1⟩, by simp [h2]⟩
theorem is_iff {F : Nat → Nat → Bool} {n m : Nat} {need : Int} : isE F n m need = true ↔ ∃ l, chain F n m 0 0 l ∧ need ≤ (l.length : Int) := by
  unfold isE
  rw [decide_eq_true_eq]
  constructor
  · intro h
    obtain ⟨h1, h2⟩ := few_ok (F := F) (n := n) (m := m) (mst F n m n m) 0 0 (by omega) (by omega) (by simp)
    exact ⟨_, h1, by rw [h2]; exact h⟩
  · rintro ⟨l, h1, h2⟩
    have := chain_le h1
    simp only [Nat.sub_zero] at this
    omega
theorem chain_low {F : Nat → Nat → Bool} {n m : Nat} : ∀ {l : List (Nat × Nat)} {i k : Nat}, chain F n m i k l → ∀ p ∈ l, i ≤ p.1 ∧ p.1 < n ∧ k ≤ p.2 ∧ p.2 < m ∧ F p.1 p.2 = true
  | [], _, _, _, p, hp => by cases hp
  | q :: t, i, k, h, p, hp => by
    obtain ⟨h1, h2, h3, h4, h5, h6⟩ := h
    rcases List.mem_cons.1 hp with rfl | hp
    · exact ⟨h1, h2, h3, h4, h5⟩
    · obtain ⟨g1, g2, g3, g4, g5⟩ := chain_low h6 p hp
      exact ⟨by omega, g2, by omega, g4, g5⟩
theorem chain_two {F : Nat → Nat → Bool} {n m : Nat} : ∀ {l : List (Nat × Nat)} {i k : Nat}, chain F n m i k l → ∀ p ∈ l, ∀ q ∈ l, p = q ∨ (p.1 < q.1 ∧ p.2 < q.2) ∨ (q.1 < p.1 ∧ q.2 < p.2)
  | [], _, _, _, p, hp, _, _ => by cases hp
  | x :: t, i, k, h, p, hp, q, hq => by
    obtain ⟨h1, h2, h3, h4, h5, h6⟩ := h
    rcases List.mem_cons.1 hp with e1 | hp2 <;> rcases List.mem_cons.1 hq with e2 | hq2
    · exact Or.inl (e1.trans e2.symm)
    · subst e1
      obtain ⟨g1, _, g3, _⟩ := chain_low h6 q hq2
      exact Or.inr (Or.inl ⟨by omega, by omega⟩)
    · subst e2
      obtain ⟨g1, _, g3, _⟩ := chain_low h6 p hp2
      exact Or.inr (Or.inr ⟨by omega, by omega⟩)
    · exact chain_two h6 p hp2 q hq2
theorem chain_to {F G : Nat → Nat → Bool} {n m : Nat} : ∀ {l : List (Nat × Nat)} {i k : Nat}, chain F n m i k l → (∀ p ∈ l, G p.1 p.2 = true) → chain G n m i k l
  | [], _, _, _, _ => trivial
  | x :: t, i, k, h, hg => by
    obtain ⟨h1, h2, h3, h4, h5, h6⟩ := h
    exact ⟨h1, h2, h3, h4, hg x (by simp), chain_to h6 fun p hp => hg p (by simp [hp])⟩
/-- Each pair of a way can be one. -/
theorem can_of {F : Nat → Nat → Bool} {n m : Nat} {need : Int} {l : List (Nat × Nat)} {p : Nat × Nat} (h : chain F n m 0 0 l) (hn : need ≤ (l.length : Int)) (hp : p ∈ l) : canE F n m need p.1 p.2 = true := by
  unfold canE
  rw [Bool.and_eq_true]
  refine ⟨(chain_low h p hp).2.2.2.2, is_iff.2 ⟨l, chain_to h fun q hq => ?_, hn⟩⟩
  unfold own
  rw [Bool.and_eq_true]
  refine ⟨(chain_low h q hq).2.2.2.2, ?_⟩
  rcases chain_two h p hp q hq with rfl | ⟨h1, h2⟩ | ⟨h1, h2⟩
  · simp [apart]
  · have e1 : ¬ q.1 < p.1 := by omega
    have e2 : ¬ q.2 < p.2 := by omega
    have e3 : ¬ q.1 = p.1 := by omega
    have e4 : ¬ q.2 = p.2 := by omega
    simp [apart, e1, e2, e3, e4]
  · have e3 : ¬ q.1 = p.1 := by omega
    have e4 : ¬ q.2 = p.2 := by omega
    simp [apart, h1, h2, e3, e4]
/-- Is a left mark, or a right one, hidden in some way? -/
def hidF (F : Nat → Nat → Bool) (left right : Int) (a b : Nat) : Bool := F a b && !(decide ((a : Int) = left) || decide ((b : Int) = right))
def hidE (F : Nat → Nat → Bool) (n m : Nat) (need left right : Int) : Bool := isE (hidF F left right) n m need
def ones (p : Nat → Bool) : Nat → Nat
  | 0 => 0
  | k + 1 => ones p k + if p k then 1 else 0
/-- The first number of which something is so. -/
def firstN (p : Nat → Bool) : Nat → Nat
  | 0 => 0
  | k + 1 => if ones p k = 0 then k else firstN p k
theorem ones_zero {p : Nat → Bool} : ∀ {m : Nat}, ones p m = 0 → ∀ k, k < m → p k = false
  | 0, _, k, hk => by omega
  | m + 1, h, k, hk => by
    unfold ones at h
    cases hp : p m
    · rw [hp] at h
      by_cases hkm : k = m
      · rw [hkm]; exact hp
      · exact ones_zero (m := m) (by simpa using h) k (by omega)
    · rw [hp] at h
      simp at h
theorem ones_one {p : Nat → Bool} : ∀ {m : Nat}, ones p m = 1 → firstN p m < m ∧ p (firstN p m) = true ∧ ∀ k, k < m → p k = true → k = firstN p m
  | 0, h => by simp [ones] at h
  | m + 1, h => by
    unfold ones at h
    by_cases h0 : ones p m = 0
    · have hp : p m = true := by
        cases hp : p m
        · rw [hp, h0] at h; simp at h
        · rfl
      unfold firstN
      rw [if_pos h0]
      refine ⟨by omega, hp, fun k hk hpk => ?_⟩
      by_cases hkm : k = m
      · exact hkm
      · have := ones_zero h0 k (by omega)
        rw [this] at hpk; cases hpk
    · have hp : p m = false := by
        cases hp : p m
        · rfl
        · rw [hp] at h; simp at h; omega
      rw [hp] at h
      obtain ⟨g1, g2, g3⟩ := ones_one (m := m) (p := p) (by simpa using h)
      unfold firstN
      rw [if_neg h0]
      refine ⟨by omega, g2, fun k hk hpk => ?_⟩
      by_cases hkm : k = m
      · rw [hkm, hp] at hpk; cases hpk
      · exact g3 k (by omega) hpk
def sureV (F : Nat → Nat → Bool) (n m : Nat) (need : Int) (i : Nat) : Int :=
  if ones (canE F n m need i) m = 1 ∧ hidE F n m need i (-1) = false then (firstN (canE F n m need i) m : Int) else -1
/-- What Fewest returns. -/
def Rws.few (r : Rws) : List (Nat × Nat) := fewL r.fit r.left.length r.right.length (mst r.fit r.left.length r.right.length r.left.length r.right.length) 0 0
def Rws.sure (r : Rws) (i : Nat) : Int := sureV r.fit r.left.length r.right.length r.need i
theorem few_chain (r : Rws) : chain r.fit r.left.length r.right.length 0 0 r.few ∧ r.few.length = mst r.fit r.left.length r.right.length r.left.length r.right.length :=
  few_ok _ 0 0 (by omega) (by omega) (by simp)
theorem few_can {r : Rws} (h : r.is = true) {p : Nat × Nat} (hp : p ∈ r.few) : p.1 < r.left.length ∧ p.2 < r.right.length ∧ r.fit p.1 p.2 = true ∧ r.can p.1 p.2 = true := by
  obtain ⟨h1, h2⟩ := few_chain r
  obtain ⟨_, g2, _, g4, g5⟩ := chain_low h1 p hp
  refine ⟨g2, g4, g5, can_of h1 ?_ hp⟩
  rw [h2]
  simpa [Rws.is, isE] using h
theorem few_len (r : Rws) : r.few.length ≤ r.left.length := by
  rw [(few_chain r).2]
  have : ∀ a b, mst r.fit r.left.length r.right.length a b ≤ a := by
    intro a
    induction a with
    | zero => intro b; rw [ms_a0]; exact Nat.le_refl 0
    | succ a ih =>
      intro b
      induction b with
      | zero => rw [ms_b0]; omega
      | succ b ihb =>
        rw [ms_step]
        have := ih b
        have := ih (b + 1)
        split <;> omega
  exact this _ _
theorem ends_has {s : Nat → Spn} {p : Nat → Bool} : ∀ {m k : Nat}, k < m → p k = true → ∃ q, endsE s p m = some q ∧ q.lo ≤ (s k).lo ∧ (s k).hi ≤ q.hi
  | m + 1, k, hk, hp => by
    unfold endsE
    by_cases hkm : k = m
    · rw [hkm] at hp ⊢
      rw [if_pos hp]
      cases endsE s p m with
      | none => exact ⟨s m, rfl, Int.le_refl _, Int.le_refl _⟩
      | some q => exact ⟨_, rfl, Int.min_le_right .., Int.le_max_right ..⟩
    · obtain ⟨q, h1, h2, h3⟩ := ends_has (s := s) (m := m) (show k < m by omega) hp
      by_cases hm : p m = true
      · rw [if_pos hm, h1]
        exact ⟨_, rfl, Int.le_trans (Int.min_le_left ..) h2, Int.le_trans h3 (Int.le_max_left ..)⟩
      · rw [if_neg hm]
        exact ⟨q, h1, h2, h3⟩
theorem ends_none {s : Nat → Spn} {p : Nat → Bool} : ∀ {m : Nat}, (∀ k, k < m → p k = false) → endsE s p m = none
  | 0, _ => rfl
  | m + 1, h => by
    unfold endsE
    rw [if_neg (by rw [h m (by omega)]; simp)]
    exact ends_none fun k hk => h k (by omega)
theorem ends_one {s : Nat → Spn} {p : Nat → Bool} : ∀ {m k : Nat}, k < m → p k = true → (∀ j, j < m → p j = true → j = k) → endsE s p m = some (s k)
  | m + 1, k, hk, hp, h => by
    unfold endsE
    by_cases hkm : k = m
    · rw [hkm] at hp h ⊢
      rw [if_pos hp, ends_none fun j hj => ?_]
      cases hpj : p j
      · rfl
      · have := h j (by omega) hpj; omega
    · have hm : p m = false := by
        cases hpm : p m
        · rfl
        · have := h m (by omega) hpm; omega
      rw [if_neg (by rw [hm]; simp)]
      exact ends_one (show k < m by omega) hp fun j hj => h j (by omega)
theorem gm_all {r : Rws} (hv : r.valid = true) : (∀ i, i < r.left.length → mrkOk (gm r.left i) = true) ∧ (∀ k, k < r.right.length → mrkOk (gm r.right k) = true) := by
  have h : (r.left ++ r.right).all mrkOk = true := by
    unfold Rws.valid at hv
    simp only [Bool.and_eq_true] at hv
    exact hv.1.1.2
  rw [List.all_eq_true] at h
  refine ⟨fun i hi => h _ ?_, fun k hk => h _ ?_⟩
  · have : gm r.left i ∈ r.left := by simp [gm, hi]
    simp [this]
  · have : gm r.right k ∈ r.right := by simp [gm, hk]
    simp [this]
theorem fit_is {r : Rws} (hv : r.valid = true) {i k : Nat} (h : r.fit i k = true) : (r.shiftOf i k).lo ≤ (r.shiftOf i k).hi := by
  unfold Rws.fit at h
  simp only [Bool.and_eq_true, decide_eq_true_eq] at h
  obtain ⟨⟨hi, hk⟩, hf⟩ := h
  have h1 := (gm_all hv).1 i hi
  have h2 := (gm_all hv).2 k hk
  have h3 : r.shift.ok (-65536) 65536 = true := by
    unfold Rws.valid at hv
    simp only [Bool.and_eq_true] at hv
    exact hv.1.2
  unfold Rws.shiftOf
  revert h1 h2 hf
  generalize gm r.left i = a
  generalize gm r.right k = b
  intro h1 h2 hf
  simp only [fitM, mrkOk, Spn.ok, Spn.is, Spn.cut, Rws.away, shiftM, Bool.and_eq_true, decide_eq_true_eq, Int.max_le, Int.le_min] at *
  omega
/-- The thing of a pair. -/
def thgP (r : Rws) (x : Nat × Nat) : Thg := ⟨⟨(gm r.left x.1).pos, ⟨0, 0⟩⟩, ⟨(gm r.right x.2).pos, ⟨0, 0⟩⟩, 0⟩
def marksP (r : Rws) : Par := { pair02 with things := r.few.map (thgP r) }
/-- Do all marks stand on a plate? -/
def Rws.onPlate (r : Rws) : Bool := (r.left ++ r.right).all fun m => decide (m.pos.hi ≤ 4000)
theorem marks_valid {r : Rws} (hv : r.valid = true) (hp : r.onPlate = true) (his : r.is = true) : (marksP r).valid = true := by
  have hl : r.few.length ≤ 12 := by
    have h1 := few_len r
    have h2 : r.left.length ≤ 10 := by
      unfold Rws.valid at hv
      simp only [Bool.and_eq_true, decide_eq_true_eq] at hv
      exact hv.1.1.1.1
    omega
  unfold Par.valid
  simp only [Bool.and_eq_true]
  have e0 : (marksP r).sizeOk = true ∧ inR (marksP r).near 2000 1073741824 = true ∧ inR (marksP r).far (marksP r).near 1073741824 = true := ⟨rfl, rfl, rfl⟩
  refine ⟨⟨⟨⟨e0.1, e0.2.1⟩, e0.2.2⟩, by simpa [marksP] using hl⟩, ?_⟩
  rw [List.all_eq_true]
  intro t ht
  obtain ⟨x, hx, rfl⟩ := List.mem_map.1 ht
  obtain ⟨g1, g2, _, _⟩ := few_can his hx
  have e1 := (gm_all hv).1 _ g1
  have e2 := (gm_all hv).2 _ g2
  have e3 : (gm r.left x.1).pos.hi ≤ 4000 ∧ (gm r.right x.2).pos.hi ≤ 4000 := by
    unfold Rws.onPlate at hp
    rw [List.all_eq_true] at hp
    have m1 : gm r.left x.1 ∈ r.left ++ r.right := by simp [gm, g1]
    have m2 : gm r.right x.2 ∈ r.left ++ r.right := by simp [gm, g2]
    exact ⟨by simpa using hp _ m1, by simpa using hp _ m2⟩
  unfold thgOk thgP
  simp only [mrkOk, Spn.ok, Bool.and_eq_true, decide_eq_true_eq] at e1 e2
  simp only [Plc.ok, Spn.ok, Bool.and_eq_true, decide_eq_true_eq, Bool.or_eq_true]
  refine ⟨⟨⟨⟨⟨by omega, by omega⟩, by omega⟩, ⟨⟨by omega, by omega⟩, by omega⟩⟩, ⟨⟨by omega, by omega⟩, by omega⟩, ⟨⟨by omega, by omega⟩, by omega⟩⟩, by simp⟩
/-- Why a thing moved, with these powers. -/
def Par.why (p : Par) (t : Thg) (q : Spn) : Int :=
  if (p.still t q).2 then 0 else if p.level t = false then 1 else if t.shift.hi < 0 then 2 else if 2000 < t.shift.lo ∨ q.hi < t.shift.lo * p.near then 3 else 4
theorem look_far {p : Par} : ∀ {l : List Thg} {q : Spn}, (∀ t ∈ l, t.far = 0) → p.look l q = some q
  | [], _, _ => rfl
  | t :: l, q, h => by
    unfold Par.look
    rw [if_pos (h t (by simp))]
    exact look_far fun u hu => h u (by simp [hu])
theorem marks_look (r : Rws) : (marksP r).look (marksP r).things (marksP r).all = some ⟨585000, 594000⟩ := by
  rw [look_far (fun t ht => ?_)]
  · rfl
  · obtain ⟨x, _, rfl⟩ := List.mem_map.1 ht
    rfl
/-- What TopMarks asks of a pair of the way. -/
structure MarkOk (r : Rws) (x : Nat × Nat) (t : Spn) (e w : Int) : Prop where
  err : e = 0
  fits : (r.shiftOf x.1 x.2).lo ≤ (r.shiftOf x.1 x.2).hi
  low : t.lo ≤ (r.shiftOf x.1 x.2).lo
  high : (r.shiftOf x.1 x.2).hi ≤ t.hi
  sure : r.sure x.1 = (x.2 : Int) → t = r.shiftOf x.1 x.2
  rows : w ≠ 1
  behind : w = 2 → r.shift.lo < 0
theorem marks_ok {r : Rws} (hv : r.valid = true) (his : r.is = true) {x : Nat × Nat} (hx : x ∈ r.few) (q : Spn) :
    MarkOk r x (shiftE r x.1).1 (shiftE r x.1).2 ((marksP r).why (thgP r x) q) := by
  obtain ⟨g1, g2, g3, g4⟩ := few_can his hx
  obtain ⟨t, h1, h2, h3⟩ := ends_has (s := r.shiftOf x.1) (p := r.can x.1) g2 g4
  have hs : shiftE r x.1 = (t, 0) := by unfold shiftE; rw [if_pos his, h1]
  have hf := fit_is hv g3
  have hlv : (marksP r).level (thgP r x) = true := by
    rfl
  rw [hs]
  refine ⟨rfl, hf, h2, h3, fun hsu => ?_, ?_, ?_⟩
  · unfold Rws.sure sureV at hsu
    by_cases hc : ones (canE r.fit r.left.length r.right.length r.need x.1) r.right.length = 1 ∧ hidE r.fit r.left.length r.right.length r.need x.1 (-1) = false
    · obtain ⟨_, _, g⟩ := ones_one hc.1
      have he := ends_one (s := r.shiftOf x.1) (p := r.can x.1) g2 g4 (fun j hj hpj => (g j hj hpj).trans (g x.2 g2 g4).symm)
      rw [h1] at he
      exact Option.some.inj he
    · rw [if_neg hc] at hsu
      omega
  · unfold Par.why
    rw [hlv]
    split
    · decide
    · rw [if_neg (by decide)]
      split
      · decide
      · split <;> decide
  · intro hw
    unfold Par.why at hw
    rw [hlv] at hw
    have hb : (thgP r x).shift.hi < 0 := by
      refine Classical.byContradiction fun hn => ?_
      revert hw
      rw [if_neg hn]
      split
      · decide
      · rw [if_neg (by decide)]
        split <;> decide
    have : r.shift.lo ≤ (thgP r x).shift.hi := by
      simp only [Rws.shiftOf, shiftM, Spn.cut, Int.max_le, Int.le_min] at hf
      simp only [thgP, Thg.shift]
      omega
    omega
end Go.Proofs.YtbnhngfegnhaiaaDoor
namespace Go.Proofs.YtbnhngfegnhaiaaDoor
open Go.RowKit
set_option linter.unusedVariables false
set_option linter.unusedSimpArgs false
theorem meth121 (v : Value) (w : World) : (method 323 184 v "pairworks/pair.powers").run Tryd.prog w = .ok (144, v) w := by kernel_rfl
theorem meth123 (v : Value) (w : World) : (method 323 186 v "pairworks/pair.powers").run Tryd.prog w = .ok (145, v) w := by kernel_rfl
structure stillMF (bv : Nat) (b4 : Nat) (b5 : Nat) (b6 : Nat) (b8 : Nat) (x : Int) (y : Int) (sa : Int) (sb : Int) (p1 : Int) (p2 : Int) (z1 : Int) (z2 : Int) (zb : Bool) (t0 : Int) (t1 : Int) (t2 : Int) (t3 : Int) (t4 : Int) (t5 : Int) (t6 : Int) (t7 : Int) (t8 : Int) (fz : Int) (S0 : World → Prop) (S1 : Unit → World → Prop) (S2 : Unit → Unit → World → Prop) (S3 : Unit → Unit → Nat → World → Prop) (S4 : Unit → Unit → Nat → Unit → World → Prop) (S5 : Unit → Unit → Nat → Unit → World → Prop) (d : Nat → Bool) (x24 x25 x26 x27 x28 x29 x30 x31 x32 x33 x7 : Value) (u1 : Unit) (u2 : Unit) (g : Nat) (u3 : Unit) (w : World) : Prop where
  q3 : d 3 = true → d 1 = true ∧ d 2 = true
  q5 : d 5 = true → d 3 = true ∧ d 4 = true
  q6 : d 6 = true → d 5 = true
  q7 : d 7 = true → d 0 = true ∧ d 5 = true ∧ d 6 = true
  q8 : d 8 = true → d 7 = true
  q9 : d 9 = true → d 7 = true
  q10 : d 10 = true → d 0 = true ∧ d 1 = true ∧ d 2 = true ∧ d 3 = true ∧ d 4 = true ∧ d 5 = true ∧ d 6 = true ∧ d 7 = true ∧ d 8 = true ∧ d 9 = true
  q11 : d 11 = true → d 0 = true ∧ d 1 = true ∧ d 2 = true ∧ d 3 = true ∧ d 4 = true ∧ d 5 = true ∧ d 6 = true ∧ d 7 = true ∧ d 8 = true ∧ d 9 = true ∧ d 10 = true
  f0 : d 0 = true → x24 = .agg #[.int .i64 x, .int .i64 y]
  f1 : d 1 = true → x25 = .pointer (some ⟨bv, 0, none⟩)
  f2 : d 2 = true → x26 = .agg #[.int .i64 t0, .int .i64 t1, .int .i64 t2, .int .i64 t3, .int .i64 t4, .int .i64 t5, .int .i64 t6, .int .i64 t7, .int .i64 t8]
  f3 : d 3 = true → x27 = .iface 184 (.agg #[.int .i64 fz])
  f4 : d 4 = true → x28 = .agg #[.int .i64 sa, .int .i64 sb]
  f5 : d 5 = true → x29 = .agg #[.int .i64 p1, .int .i64 p2]
  f6 : d 6 = true → x30 = .slice (some ⟨g, 0, none⟩) 1 1
  f7 : d 7 = true → x31 = .tuple #[.agg #[.int .i64 z1, .int .i64 z2], .bool zb]
  f8 : d 8 = true → x32 = .agg #[.int .i64 z1, .int .i64 z2]
  f9 : d 9 = true → x33 = .bool zb
  f11 : d 11 = true → x7 = .bool zb
  st0 : d 3 = false → S0 w
  st1 : d 3 = true → d 5 = false → S1 u1 w
  st2 : d 5 = true → d 6 = false → S2 u1 u2 w
  st3 : d 6 = true → d 7 = false → S3 u1 u2 g w
  st4 : d 7 = true → d 10 = false → S4 u1 u2 g u3 w
  st5 : d 10 = true → S5 u1 u2 g u3 w
noncomputable def stillMC : Code := (Tryd.f43.body.bind (regionAt 4)).getD .skip
set_option maxRecDepth 100000 in
set_option maxHeartbeats 4000000 in
theorem stillM {bv : Nat} {b4 : Nat} {b5 : Nat} {b6 : Nat} {b8 : Nat} {x : Int} {y : Int} {sa : Int} {sb : Int} {p1 : Int} {p2 : Int} {z1 : Int} {z2 : Int} {zb : Bool} {t0 : Int} {t1 : Int} {t2 : Int} {t3 : Int} {t4 : Int} {t5 : Int} {t6 : Int} {t7 : Int} {t8 : Int} {fz : Int} {S0 : World → Prop} {S1 : Unit → World → Prop} {S2 : Unit → Unit → World → Prop} {S3 : Unit → Unit → Nat → World → Prop} {S4 : Unit → Unit → Nat → Unit → World → Prop} {S5 : Unit → Unit → Nat → Unit → World → Prop} {Q : Exit → Act → World → Prop} {W1 : World} (hm : ∀ (v : Value) (w : World), (method 323 184 v "pairworks/pair.powers").run Tryd.prog w = .ok (144, v) w) (h0 : S0 W1.drew)
    (kl0 : Hid (∀ (u1 : Unit) (u2 : Unit) (g : Nat) (w : World), (S0 w ∨ S1 u1 w ∨ S2 u1 u2 w ∨ S3 u1 u2 g w) → w.cell? ⟨b5, 0, none⟩ = some (.int .i64 x) ∧ w.cell? ⟨b5, 1, none⟩ = some (.int .i64 y)))
    (kl2 : Hid (∀ (w : World), (S0 w) → w.cell? ⟨b4, 0, none⟩ = some (.int .i64 t0) ∧ w.cell? ⟨b4, 1, none⟩ = some (.int .i64 t1) ∧ w.cell? ⟨b4, 2, none⟩ = some (.int .i64 t2) ∧ w.cell? ⟨b4, 3, none⟩ = some (.int .i64 t3) ∧ w.cell? ⟨b4, 4, none⟩ = some (.int .i64 t4) ∧ w.cell? ⟨b4, 5, none⟩ = some (.int .i64 t5) ∧ w.cell? ⟨b4, 6, none⟩ = some (.int .i64 t6) ∧ w.cell? ⟨b4, 7, none⟩ = some (.int .i64 t7) ∧ w.cell? ⟨b4, 8, none⟩ = some (.int .i64 t8)))
    (kc3 : Hid (∀ (w : World), S0 w → Calls Tryd.prog 83 #[.pointer (some ⟨bv, 0, none⟩), .agg #[.int .i64 t0, .int .i64 t1, .int .i64 t2, .int .i64 t3, .int .i64 t4, .int .i64 t5, .int .i64 t6, .int .i64 t7, .int .i64 t8]] w fun e w' => ∃ u1 : Unit, e = .returned (.iface 184 (.agg #[.int .i64 fz])) ∧ S1 u1 w'))
    (kl4 : Hid (∀ (u1 : Unit) (w : World), (S0 w ∨ S1 u1 w) → w.cell? ⟨b8, 0, none⟩ = some (.int .i64 sa) ∧ w.cell? ⟨b8, 1, none⟩ = some (.int .i64 sb)))
    (kc5 : Hid (∀ (u1 : Unit) (w : World), S1 u1 w → Calls Tryd.prog 144 #[.agg #[.int .i64 fz], .agg #[.int .i64 sa, .int .i64 sb]] w fun e w' => ∃ u2 : Unit, e = .returned (.agg #[.int .i64 p1, .int .i64 p2]) ∧ S2 u1 u2 w'))
    (kc6 : Hid (∀ (u1 : Unit) (u2 : Unit) (w : World), S2 u1 u2 w → S3 u1 u2 w.heap.size (w.alloc (.cells #[.int .i64 p1, .int .i64 p2] 42))))
    (kc7 : Hid (∀ (u1 : Unit) (u2 : Unit) (g : Nat) (w : World), S3 u1 u2 g w → Calls Tryd.prog 82 #[.agg #[.int .i64 x, .int .i64 y], .slice (some ⟨g, 0, none⟩) 1 1] w fun e w' => ∃ u3 : Unit, e = .returned (.tuple #[.agg #[.int .i64 z1, .int .i64 z2], .bool zb]) ∧ S4 u1 u2 g u3 w'))
    (kc10 : Hid (∀ (u1 : Unit) (u2 : Unit) (g : Nat) (u3 : Unit) (w : World), S4 u1 u2 g u3 w → (∃ u, w.cell? ⟨b6, 0, none⟩ = some u) ∧ w.frozen? ⟨b6, 0, none⟩ = false ∧ (∃ u, w.cell? ⟨b6, 1, none⟩ = some u) ∧ w.frozen? ⟨b6, 1, none⟩ = false ∧ S5 u1 u2 g u3 ((w.setCell ⟨b6, 0, none⟩ (.int .i64 z1)).setCell ⟨b6, 1, none⟩ (.int .i64 z2))))
    {s1 s2 s3 s7 s9 s10 s11 s12 s13 s14 s15 s16 s17 s18 s19 s20 s21 s22 s23 s24 s25 s26 s27 s28 s29 s30 s31 s32 s33 : Value} {dd : List Deferred}
    (hQ : ∀ (u1 : Unit) (u2 : Unit) (g : Nat) (u3 : Unit) (w' : World), S5 u1 u2 g u3 w' → Q .normal { tmps := #[.pointer (some ⟨bv, 0, none⟩), s1, s2, s3, .pointer (some ⟨b4, 0, none⟩), .pointer (some ⟨b5, 0, none⟩), .pointer (some ⟨b6, 0, none⟩), .bool zb, .pointer (some ⟨b8, 0, none⟩), s9, s10, s11, s12, s13, s14, s15, s16, s17, s18, s19, s20, s21, s22, s23, .agg #[.int .i64 x, .int .i64 y], .pointer (some ⟨bv, 0, none⟩), .agg #[.int .i64 t0, .int .i64 t1, .int .i64 t2, .int .i64 t3, .int .i64 t4, .int .i64 t5, .int .i64 t6, .int .i64 t7, .int .i64 t8], .iface 184 (.agg #[.int .i64 fz]), .agg #[.int .i64 sa, .int .i64 sb], .agg #[.int .i64 p1, .int .i64 p2], .slice (some ⟨g, 0, none⟩) 1 1, .tuple #[.agg #[.int .i64 z1, .int .i64 z2], .bool zb], .agg #[.int .i64 z1, .int .i64 z2], .bool zb], defers := dd } w') :
    Code.wpIn (wideAt none) 0 Tryd.prog stillMC Q { tmps := #[.pointer (some ⟨bv, 0, none⟩), s1, s2, s3, .pointer (some ⟨b4, 0, none⟩), .pointer (some ⟨b5, 0, none⟩), .pointer (some ⟨b6, 0, none⟩), s7, .pointer (some ⟨b8, 0, none⟩), s9, s10, s11, s12, s13, s14, s15, s16, s17, s18, s19, s20, s21, s22, s23, s24, s25, s26, s27, s28, s29, s30, s31, s32, s33], defers := dd } W1 := by
  have HQ := Lib.hid hQ
  clear hQ
  conv => arg 4; whnf
  refine wpIn_region_invG mixed (by kernel_rfl) (fun d_ a_ w' => ∃ (x24 : Value) (x25 : Value) (x26 : Value) (x27 : Value) (x28 : Value) (x29 : Value) (x30 : Value) (x31 : Value) (x32 : Value) (x33 : Value) (x7 : Value) (u1 : Unit) (u2 : Unit) (g : Nat) (u3 : Unit), a_ = { tmps := #[.pointer (some ⟨bv, 0, none⟩), s1, s2, s3, .pointer (some ⟨b4, 0, none⟩), .pointer (some ⟨b5, 0, none⟩), .pointer (some ⟨b6, 0, none⟩), x7, .pointer (some ⟨b8, 0, none⟩), s9, s10, s11, s12, s13, s14, s15, s16, s17, s18, s19, s20, s21, s22, s23, x24, x25, x26, x27, x28, x29, x30, x31, x32, x33], defers := dd } ∧ stillMF bv b4 b5 b6 b8 x y sa sb p1 p2 z1 z2 zb t0 t1 t2 t3 t4 t5 t6 t7 t8 fz S0 S1 S2 S3 S4 S5 d_ x24 x25 x26 x27 x28 x29 x30 x31 x32 x33 x7 u1 u2 g u3 w') ?_ ?_ ?_
  · refine ⟨s24, s25, s26, s27, s28, s29, s30, s31, s32, s33, s7, default, default, 0, default, rfl, ?_⟩
    constructor <;> first | rfl | (intro _; rfl) | (intro h; cases h; done) | (intro _; exact h0) | exact h0
  · refine ⟨?_, ?_, ?_, ?_, ?_, ?_, ?_, ?_, ?_, ?_, ?_, ?_, trivial⟩
    all_goals
      rintro d_ a_ w1 K hd_ hdep ⟨x24, x25, x26, x27, x28, x29, x30, x31, x32, x33, x7, u1, u2, g, u3, rfl, F⟩ HK
      simp [Region.binds] at hdep
    · have hst : S0 w1 ∨ S1 u1 w1 ∨ S2 u1 u2 w1 ∨ S3 u1 u2 g w1 := by
        cases e1 : d_ 3 with
        | false => exact .inl ((F.st0 e1))
        | true =>
          cases e2 : d_ 5 with
          | false => exact .inr (.inl ((F.st1 e1 e2)))
          | true =>
            cases e3 : d_ 6 with
            | false => exact .inr (.inr (.inl ((F.st2 e2 e3))))
            | true =>
              have n_ : d_ 7 = false := by
                cases e_ : d_ 7 with
                | false => rfl
                | true => have h2 := (F.q7 e_).1; rw [show d_ 0 = false from hd_] at h2; cases h2
              exact .inr (.inr (.inr ((F.st3 e3 n_))))
      have kk := kl0.out u1 u2 g w1 hst
      obtain ⟨kk0, kk1⟩ := kk
      clear hst
      have HF : Hid (stillMF bv b4 b5 b6 b8 x y sa sb p1 p2 z1 z2 zb t0 t1 t2 t3 t4 t5 t6 t7 t8 fz S0 S1 S2 S3 S4 S5 (upd d_ 0) (.agg #[.int .i64 x, .int .i64 y]) x25 x26 x27 x28 x29 x30 x31 x32 x33 x7 u1 u2 g u3 w1) := ⟨F.q3, F.q5, F.q6, fun h => andM0 (F.q7 h) rfl, F.q8, F.q9, fun h => andM0 (F.q10 h) rfl, fun h => andM0 (F.q11 h) rfl, fun _ => rfl, F.f1, F.f2, F.f3, F.f4, F.f5, F.f6, F.f7, F.f8, F.f9, F.f11, F.st0, F.st1, F.st2, F.st3, F.st4, F.st5⟩
      clear F
      go_simp
      exact HK.out _ _ ⟨_, _, _, _, _, _, _, _, _, _, _, _, _, _, _, rfl, HF.out⟩
    · have HF : Hid (stillMF bv b4 b5 b6 b8 x y sa sb p1 p2 z1 z2 zb t0 t1 t2 t3 t4 t5 t6 t7 t8 fz S0 S1 S2 S3 S4 S5 (upd d_ 1) x24 (.pointer (some ⟨bv, 0, none⟩)) x26 x27 x28 x29 x30 x31 x32 x33 x7 u1 u2 g u3 w1) := ⟨fun h => andM0 (F.q3 h) rfl, F.q5, F.q6, F.q7, F.q8, F.q9, fun h => andM1 (F.q10 h) rfl, fun h => andM1 (F.q11 h) rfl, F.f0, fun _ => rfl, F.f2, F.f3, F.f4, F.f5, F.f6, F.f7, F.f8, F.f9, F.f11, F.st0, F.st1, F.st2, F.st3, F.st4, F.st5⟩
      clear F
      go_simp
      exact HK.out _ _ ⟨_, _, _, _, _, _, _, _, _, _, _, _, _, _, _, rfl, HF.out⟩
    · have hst : S0 w1 := by
        have n_ : d_ 3 = false := by
          cases e_ : d_ 3 with
          | false => rfl
          | true => have h2 := (F.q3 e_).2; rw [show d_ 2 = false from hd_] at h2; cases h2
        exact (F.st0 n_)
      have kk := kl2.out w1 hst
      obtain ⟨kk0, kk1, kk2, kk3, kk4, kk5, kk6, kk7, kk8⟩ := kk
      clear hst
      have HF : Hid (stillMF bv b4 b5 b6 b8 x y sa sb p1 p2 z1 z2 zb t0 t1 t2 t3 t4 t5 t6 t7 t8 fz S0 S1 S2 S3 S4 S5 (upd d_ 2) x24 x25 (.agg #[.int .i64 t0, .int .i64 t1, .int .i64 t2, .int .i64 t3, .int .i64 t4, .int .i64 t5, .int .i64 t6, .int .i64 t7, .int .i64 t8]) x27 x28 x29 x30 x31 x32 x33 x7 u1 u2 g u3 w1) := ⟨fun h => andL1 (F.q3 h) rfl, F.q5, F.q6, F.q7, F.q8, F.q9, fun h => andM2 (F.q10 h) rfl, fun h => andM2 (F.q11 h) rfl, F.f0, F.f1, fun _ => rfl, F.f3, F.f4, F.f5, F.f6, F.f7, F.f8, F.f9, F.f11, F.st0, F.st1, F.st2, F.st3, F.st4, F.st5⟩
      clear F
      go_simp
      exact HK.out _ _ ⟨_, _, _, _, _, _, _, _, _, _, _, _, _, _, _, rfl, HF.out⟩
    · have hS := F.st0  hd_
      obtain rfl := F.f1 (by simp [hdep])
      obtain rfl := F.f2 (by simp [hdep])
      have hc := kc3.out w1 hS
      have HF := Lib.hid F
      clear F
      go_simp
      refine ⟨trivial, rfl, wideAt_calls (hc.mono ?_)⟩
      rintro e w5 ⟨v_, rfl, hres⟩
      exact HK.out _ _ ⟨_, _, _, _, _, _, _, _, _, _, _, v_, u2, g, u3, rfl, ⟨fun _ => ⟨(show _ from (by simp [hdep] : d_ 1 = true)), (show _ from (by simp [hdep] : d_ 2 = true))⟩, fun h => ⟨rfl, (HF.out.q5 h).2⟩, HF.out.q6, HF.out.q7, HF.out.q8, HF.out.q9, fun h => ⟨(HF.out.q10 h).1, (HF.out.q10 h).2.1, (HF.out.q10 h).2.2.1, rfl, (HF.out.q10 h).2.2.2.2.1, (HF.out.q10 h).2.2.2.2.2.1, (HF.out.q10 h).2.2.2.2.2.2.1, (HF.out.q10 h).2.2.2.2.2.2.2.1, (HF.out.q10 h).2.2.2.2.2.2.2.2.1, (HF.out.q10 h).2.2.2.2.2.2.2.2.2⟩, fun h => ⟨(HF.out.q11 h).1, (HF.out.q11 h).2.1, (HF.out.q11 h).2.2.1, rfl, (HF.out.q11 h).2.2.2.2.1, (HF.out.q11 h).2.2.2.2.2.1, (HF.out.q11 h).2.2.2.2.2.2.1, (HF.out.q11 h).2.2.2.2.2.2.2.1, (HF.out.q11 h).2.2.2.2.2.2.2.2.1, (HF.out.q11 h).2.2.2.2.2.2.2.2.2.1, (HF.out.q11 h).2.2.2.2.2.2.2.2.2.2⟩, HF.out.f0, HF.out.f1, HF.out.f2, fun _ => rfl, HF.out.f4, HF.out.f5, HF.out.f6, HF.out.f7, HF.out.f8, HF.out.f9, HF.out.f11, fun h => (by simp [upd] at h), fun _ _ => hres, fun h _ => (by have h2 : d_ 3 = true := (HF.out.q5 h).1; rw [show d_ 3 = false from hd_] at h2; cases h2), fun h _ => (by have h2 : d_ 3 = true := (HF.out.q5 (HF.out.q6 h)).1; rw [show d_ 3 = false from hd_] at h2; cases h2), fun h _ => (by have h2 : d_ 3 = true := (HF.out.q5 (HF.out.q7 h).2.1).1; rw [show d_ 3 = false from hd_] at h2; cases h2), fun h => (by have h2 : d_ 3 = true := (HF.out.q10 h).2.2.2.1; rw [show d_ 3 = false from hd_] at h2; cases h2)⟩⟩
    · have hst : S0 w1 ∨ S1 u1 w1 := by
        cases e1 : d_ 3 with
        | false => exact .inl ((F.st0 e1))
        | true =>
          have n_ : d_ 5 = false := by
            cases e_ : d_ 5 with
            | false => rfl
            | true => have h2 := (F.q5 e_).2; rw [show d_ 4 = false from hd_] at h2; cases h2
          exact .inr ((F.st1 e1 n_))
      have kk := kl4.out u1 w1 hst
      obtain ⟨kk0, kk1⟩ := kk
      clear hst
      have HF : Hid (stillMF bv b4 b5 b6 b8 x y sa sb p1 p2 z1 z2 zb t0 t1 t2 t3 t4 t5 t6 t7 t8 fz S0 S1 S2 S3 S4 S5 (upd d_ 4) x24 x25 x26 x27 (.agg #[.int .i64 sa, .int .i64 sb]) x29 x30 x31 x32 x33 x7 u1 u2 g u3 w1) := ⟨F.q3, fun h => andL1 (F.q5 h) rfl, F.q6, F.q7, F.q8, F.q9, fun h => andM4 (F.q10 h) rfl, fun h => andM4 (F.q11 h) rfl, F.f0, F.f1, F.f2, F.f3, fun _ => rfl, F.f5, F.f6, F.f7, F.f8, F.f9, F.f11, F.st0, F.st1, F.st2, F.st3, F.st4, F.st5⟩
      clear F
      go_simp
      exact HK.out _ _ ⟨_, _, _, _, _, _, _, _, _, _, _, _, _, _, _, rfl, HF.out⟩
    · have hS := F.st1 (by simp [hdep] : d_ 3 = true) hd_
      obtain rfl := F.f3 (by simp [hdep])
      obtain rfl := F.f4 (by simp [hdep])
      have hc := kc5.out u1 w1 hS
      have HF := Lib.hid F
      clear F
      go_simp
      refine ⟨trivial, rfl, wideAt_calls (hc.mono ?_)⟩
      rintro e w5 ⟨v_, rfl, hres⟩
      exact HK.out _ _ ⟨_, _, _, _, _, _, _, _, _, _, _, u1, v_, g, u3, rfl, ⟨HF.out.q3, fun _ => ⟨(show _ from (by simp [hdep] : d_ 3 = true)), (show _ from (by simp [hdep] : d_ 4 = true))⟩, fun h => rfl, fun h => ⟨(HF.out.q7 h).1, rfl, (HF.out.q7 h).2.2⟩, HF.out.q8, HF.out.q9, fun h => ⟨(HF.out.q10 h).1, (HF.out.q10 h).2.1, (HF.out.q10 h).2.2.1, (HF.out.q10 h).2.2.2.1, (HF.out.q10 h).2.2.2.2.1, rfl, (HF.out.q10 h).2.2.2.2.2.2.1, (HF.out.q10 h).2.2.2.2.2.2.2.1, (HF.out.q10 h).2.2.2.2.2.2.2.2.1, (HF.out.q10 h).2.2.2.2.2.2.2.2.2⟩, fun h => ⟨(HF.out.q11 h).1, (HF.out.q11 h).2.1, (HF.out.q11 h).2.2.1, (HF.out.q11 h).2.2.2.1, (HF.out.q11 h).2.2.2.2.1, rfl, (HF.out.q11 h).2.2.2.2.2.2.1, (HF.out.q11 h).2.2.2.2.2.2.2.1, (HF.out.q11 h).2.2.2.2.2.2.2.2.1, (HF.out.q11 h).2.2.2.2.2.2.2.2.2.1, (HF.out.q11 h).2.2.2.2.2.2.2.2.2.2⟩, HF.out.f0, HF.out.f1, HF.out.f2, HF.out.f3, HF.out.f4, fun _ => rfl, HF.out.f6, HF.out.f7, HF.out.f8, HF.out.f9, HF.out.f11, fun h => (by have h2 : d_ 3 = false := h; rw [(by simp [hdep] : d_ 3 = true)] at h2; cases h2), fun _ h => (by simp [upd] at h), fun _ _ => hres, fun h _ => (by have h2 : d_ 5 = true := (HF.out.q6 h); rw [show d_ 5 = false from hd_] at h2; cases h2), fun h _ => (by have h2 : d_ 5 = true := (HF.out.q7 h).2.1; rw [show d_ 5 = false from hd_] at h2; cases h2), fun h => (by have h2 : d_ 5 = true := (HF.out.q10 h).2.2.2.2.2.1; rw [show d_ 5 = false from hd_] at h2; cases h2)⟩⟩
    · have hS := F.st2 (by simp [hdep] : d_ 5 = true) hd_
      obtain rfl := F.f5 (by simp [hdep])
      have hres := kc6.out u1 u2 w1 hS
      have HF : Hid (stillMF bv b4 b5 b6 b8 x y sa sb p1 p2 z1 z2 zb t0 t1 t2 t3 t4 t5 t6 t7 t8 fz S0 S1 S2 S3 S4 S5 (upd d_ 6) x24 x25 x26 x27 x28 (.agg #[.int .i64 p1, .int .i64 p2]) ((.slice (some ⟨w1.heap.size, 0, none⟩) 1 1)) x31 x32 x33 x7 u1 u2 w1.heap.size u3 (w1.alloc (.cells #[.int .i64 p1, .int .i64 p2] 42))) := ⟨F.q3, F.q5, fun _ => (show _ from (by simp [hdep] : d_ 5 = true)), fun h => andL2 (F.q7 h) rfl, F.q8, F.q9, fun h => andM6 (F.q10 h) rfl, fun h => andM6 (F.q11 h) rfl, F.f0, F.f1, F.f2, F.f3, F.f4, F.f5, fun _ => rfl, F.f7, F.f8, F.f9, F.f11, fun h => (by have h2 : d_ 3 = false := h; rw [(F.q5 (by simp [hdep] : d_ 5 = true)).1] at h2; cases h2), fun _ h => (by have h2 : d_ 5 = false := h; rw [(by simp [hdep] : d_ 5 = true)] at h2; cases h2), fun _ h => (by simp [upd] at h), fun _ _ => hres, fun h _ => (by have h2 : d_ 6 = true := (F.q7 h).2.2; rw [show d_ 6 = false from hd_] at h2; cases h2), fun h => (by have h2 : d_ 6 = true := (F.q10 h).2.2.2.2.2.2.1; rw [show d_ 6 = false from hd_] at h2; cases h2)⟩
      clear F hS hres
      go_simp
      exact HK.out _ _ ⟨_, _, _, _, _, _, _, _, _, _, _, _, _, _, _, rfl, HF.out⟩
    · have hS := F.st3 (by simp [hdep] : d_ 6 = true) hd_
      obtain rfl := F.f0 (by simp [hdep])
      obtain rfl := F.f6 (by simp [hdep])
      have hc := kc7.out u1 u2 g w1 hS
      have HF := Lib.hid F
      clear F
      go_simp
      refine ⟨trivial, rfl, wideAt_calls (hc.mono ?_)⟩
      rintro e w5 ⟨v_, rfl, hres⟩
      exact HK.out _ _ ⟨_, _, _, _, _, _, _, _, _, _, _, u1, u2, g, v_, rfl, ⟨HF.out.q3, HF.out.q5, HF.out.q6, fun _ => ⟨(show _ from (by simp [hdep] : d_ 0 = true)), (show _ from (by simp [hdep] : d_ 5 = true)), (show _ from (by simp [hdep] : d_ 6 = true))⟩, fun h => rfl, fun h => rfl, fun h => ⟨(HF.out.q10 h).1, (HF.out.q10 h).2.1, (HF.out.q10 h).2.2.1, (HF.out.q10 h).2.2.2.1, (HF.out.q10 h).2.2.2.2.1, (HF.out.q10 h).2.2.2.2.2.1, (HF.out.q10 h).2.2.2.2.2.2.1, rfl, (HF.out.q10 h).2.2.2.2.2.2.2.2.1, (HF.out.q10 h).2.2.2.2.2.2.2.2.2⟩, fun h => ⟨(HF.out.q11 h).1, (HF.out.q11 h).2.1, (HF.out.q11 h).2.2.1, (HF.out.q11 h).2.2.2.1, (HF.out.q11 h).2.2.2.2.1, (HF.out.q11 h).2.2.2.2.2.1, (HF.out.q11 h).2.2.2.2.2.2.1, rfl, (HF.out.q11 h).2.2.2.2.2.2.2.2.1, (HF.out.q11 h).2.2.2.2.2.2.2.2.2.1, (HF.out.q11 h).2.2.2.2.2.2.2.2.2.2⟩, HF.out.f0, HF.out.f1, HF.out.f2, HF.out.f3, HF.out.f4, HF.out.f5, HF.out.f6, fun _ => rfl, HF.out.f8, HF.out.f9, HF.out.f11, fun h => (by have h2 : d_ 3 = false := h; rw [(HF.out.q5 (by simp [hdep] : d_ 5 = true)).1] at h2; cases h2), fun _ h => (by have h2 : d_ 5 = false := h; rw [(by simp [hdep] : d_ 5 = true)] at h2; cases h2), fun _ h => (by have h2 : d_ 6 = false := h; rw [(by simp [hdep] : d_ 6 = true)] at h2; cases h2), fun _ h => (by simp [upd] at h), fun _ _ => hres, fun h => (by have h2 : d_ 7 = true := (HF.out.q10 h).2.2.2.2.2.2.2.1; rw [show d_ 7 = false from hd_] at h2; cases h2)⟩⟩
    · obtain rfl := F.f7 (by simp [hdep])
      have HF : Hid (stillMF bv b4 b5 b6 b8 x y sa sb p1 p2 z1 z2 zb t0 t1 t2 t3 t4 t5 t6 t7 t8 fz S0 S1 S2 S3 S4 S5 (upd d_ 8) x24 x25 x26 x27 x28 x29 x30 (.tuple #[.agg #[.int .i64 z1, .int .i64 z2], .bool zb]) (.agg #[.int .i64 z1, .int .i64 z2]) x33 x7 u1 u2 g u3 w1) := ⟨F.q3, F.q5, F.q6, F.q7, fun _ => (show _ from (by simp [hdep] : d_ 7 = true)), F.q9, fun h => andM8 (F.q10 h) rfl, fun h => andM8 (F.q11 h) rfl, F.f0, F.f1, F.f2, F.f3, F.f4, F.f5, F.f6, F.f7, fun _ => rfl, F.f9, F.f11, F.st0, F.st1, F.st2, F.st3, F.st4, F.st5⟩
      clear F
      go_simp
      exact HK.out _ _ ⟨_, _, _, _, _, _, _, _, _, _, _, _, _, _, _, rfl, HF.out⟩
    · obtain rfl := F.f7 (by simp [hdep])
      have HF : Hid (stillMF bv b4 b5 b6 b8 x y sa sb p1 p2 z1 z2 zb t0 t1 t2 t3 t4 t5 t6 t7 t8 fz S0 S1 S2 S3 S4 S5 (upd d_ 9) x24 x25 x26 x27 x28 x29 x30 (.tuple #[.agg #[.int .i64 z1, .int .i64 z2], .bool zb]) x32 (.bool zb) x7 u1 u2 g u3 w1) := ⟨F.q3, F.q5, F.q6, F.q7, F.q8, fun _ => (show _ from (by simp [hdep] : d_ 7 = true)), fun h => andL9 (F.q10 h) rfl, fun h => andM9 (F.q11 h) rfl, F.f0, F.f1, F.f2, F.f3, F.f4, F.f5, F.f6, F.f7, F.f8, fun _ => rfl, F.f11, F.st0, F.st1, F.st2, F.st3, F.st4, F.st5⟩
      clear F
      go_simp
      exact HK.out _ _ ⟨_, _, _, _, _, _, _, _, _, _, _, _, _, _, _, rfl, HF.out⟩
    · have hS := F.st4 (by simp [hdep] : d_ 7 = true) hd_
      obtain rfl := F.f8 (by simp [hdep])
      obtain ⟨⟨ku0, kcell0⟩, kfr0, ⟨ku1, kcell1⟩, kfr1, hres⟩ := kc10.out u1 u2 g u3 w1 hS
      have HF : Hid (stillMF bv b4 b5 b6 b8 x y sa sb p1 p2 z1 z2 zb t0 t1 t2 t3 t4 t5 t6 t7 t8 fz S0 S1 S2 S3 S4 S5 (upd d_ 10) x24 x25 x26 x27 x28 x29 x30 x31 (.agg #[.int .i64 z1, .int .i64 z2]) x33 x7 u1 u2 g u3 ((w1.setCell ⟨b6, 0, none⟩ (.int .i64 z1)).setCell ⟨b6, 1, none⟩ (.int .i64 z2))) := ⟨F.q3, F.q5, F.q6, F.q7, F.q8, F.q9, fun _ => ⟨(show _ from (by simp [hdep] : d_ 0 = true)), (show _ from (by simp [hdep] : d_ 1 = true)), (show _ from (by simp [hdep] : d_ 2 = true)), (show _ from (by simp [hdep] : d_ 3 = true)), (show _ from (by simp [hdep] : d_ 4 = true)), (show _ from (by simp [hdep] : d_ 5 = true)), (show _ from (by simp [hdep] : d_ 6 = true)), (show _ from (by simp [hdep] : d_ 7 = true)), (show _ from (by simp [hdep] : d_ 8 = true)), (show _ from (by simp [hdep] : d_ 9 = true))⟩, fun h => andL10 (F.q11 h) rfl, F.f0, F.f1, F.f2, F.f3, F.f4, F.f5, F.f6, F.f7, F.f8, F.f9, F.f11, fun h => (by have h2 : d_ 3 = false := h; rw [(by simp [hdep] : d_ 3 = true)] at h2; cases h2), fun _ h => (by have h2 : d_ 5 = false := h; rw [(by simp [hdep] : d_ 5 = true)] at h2; cases h2), fun _ h => (by have h2 : d_ 6 = false := h; rw [(by simp [hdep] : d_ 6 = true)] at h2; cases h2), fun _ h => (by have h2 : d_ 7 = false := h; rw [(by simp [hdep] : d_ 7 = true)] at h2; cases h2), fun _ h => (by simp [upd] at h), fun _ => hres⟩
      clear F hS hres
      go_simp
      exact HK.out _ _ ⟨_, _, _, _, _, _, _, _, _, _, _, _, _, _, _, rfl, HF.out⟩
    · obtain rfl := F.f9 (by simp [hdep])
      have HF : Hid (stillMF bv b4 b5 b6 b8 x y sa sb p1 p2 z1 z2 zb t0 t1 t2 t3 t4 t5 t6 t7 t8 fz S0 S1 S2 S3 S4 S5 (upd d_ 11) x24 x25 x26 x27 x28 x29 x30 x31 x32 (.bool zb) (.bool zb) u1 u2 g u3 w1) := ⟨F.q3, F.q5, F.q6, F.q7, F.q8, F.q9, F.q10, fun _ => ⟨(show _ from (by simp [hdep] : d_ 0 = true)), (show _ from (by simp [hdep] : d_ 1 = true)), (show _ from (by simp [hdep] : d_ 2 = true)), (show _ from (by simp [hdep] : d_ 3 = true)), (show _ from (by simp [hdep] : d_ 4 = true)), (show _ from (by simp [hdep] : d_ 5 = true)), (show _ from (by simp [hdep] : d_ 6 = true)), (show _ from (by simp [hdep] : d_ 7 = true)), (show _ from (by simp [hdep] : d_ 8 = true)), (show _ from (by simp [hdep] : d_ 9 = true)), (show _ from (by simp [hdep] : d_ 10 = true))⟩, F.f0, F.f1, F.f2, F.f3, F.f4, F.f5, F.f6, F.f7, F.f8, F.f9, fun _ => rfl, F.st0, F.st1, F.st2, F.st3, F.st4, F.st5⟩
      clear F
      go_simp
      exact HK.out _ _ ⟨_, _, _, _, _, _, _, _, _, _, _, _, _, _, _, rfl, HF.out⟩
  · rintro d_ a_ w1 hall ⟨x24, x25, x26, x27, x28, x29, x30, x31, x32, x33, x7, u1, u2, g, u3, rfl, F⟩
    have hall' : ∀ k, k < 12 → d_ k = true := hall
    obtain rfl := F.f0 (hall' 0 (by decide))
    obtain rfl := F.f1 (hall' 1 (by decide))
    obtain rfl := F.f2 (hall' 2 (by decide))
    obtain rfl := F.f3 (hall' 3 (by decide))
    obtain rfl := F.f4 (hall' 4 (by decide))
    obtain rfl := F.f5 (hall' 5 (by decide))
    obtain rfl := F.f6 (hall' 6 (by decide))
    obtain rfl := F.f7 (hall' 7 (by decide))
    obtain rfl := F.f8 (hall' 8 (by decide))
    obtain rfl := F.f9 (hall' 9 (by decide))
    obtain rfl := F.f11 (hall' 11 (by decide))
    have hst := F.st5 (hall' 10 (by decide))
    exact HQ.out u1 u2 g u3 w1 hst
structure stillOF (bv : Nat) (b4 : Nat) (b5 : Nat) (b6 : Nat) (b8 : Nat) (x : Int) (y : Int) (sa : Int) (sb : Int) (p1 : Int) (p2 : Int) (z1 : Int) (z2 : Int) (zb : Bool) (t0 : Int) (t1 : Int) (t2 : Int) (t3 : Int) (t4 : Int) (t5 : Int) (t6 : Int) (t7 : Int) (t8 : Int) (nz : Int) (fz : Int) (S0 : World → Prop) (S1 : Unit → World → Prop) (S2 : Unit → Unit → World → Prop) (S3 : Unit → Unit → Nat → World → Prop) (S4 : Unit → Unit → Nat → Unit → World → Prop) (S5 : Unit → Unit → Nat → Unit → World → Prop) (d : Nat → Bool) (x24 x25 x26 x27 x28 x29 x30 x31 x32 x33 x7 : Value) (u1 : Unit) (u2 : Unit) (g : Nat) (u3 : Unit) (w : World) : Prop where
  q3 : d 3 = true → d 1 = true ∧ d 2 = true
  q5 : d 5 = true → d 3 = true ∧ d 4 = true
  q6 : d 6 = true → d 5 = true
  q7 : d 7 = true → d 0 = true ∧ d 5 = true ∧ d 6 = true
  q8 : d 8 = true → d 7 = true
  q9 : d 9 = true → d 7 = true
  q10 : d 10 = true → d 0 = true ∧ d 1 = true ∧ d 2 = true ∧ d 3 = true ∧ d 4 = true ∧ d 5 = true ∧ d 6 = true ∧ d 7 = true ∧ d 8 = true ∧ d 9 = true
  q11 : d 11 = true → d 0 = true ∧ d 1 = true ∧ d 2 = true ∧ d 3 = true ∧ d 4 = true ∧ d 5 = true ∧ d 6 = true ∧ d 7 = true ∧ d 8 = true ∧ d 9 = true ∧ d 10 = true
  f0 : d 0 = true → x24 = .agg #[.int .i64 x, .int .i64 y]
  f1 : d 1 = true → x25 = .pointer (some ⟨bv, 0, none⟩)
  f2 : d 2 = true → x26 = .agg #[.int .i64 t0, .int .i64 t1, .int .i64 t2, .int .i64 t3, .int .i64 t4, .int .i64 t5, .int .i64 t6, .int .i64 t7, .int .i64 t8]
  f3 : d 3 = true → x27 = .iface 186 (.agg #[.int .i64 nz, .int .i64 fz])
  f4 : d 4 = true → x28 = .agg #[.int .i64 sa, .int .i64 sb]
  f5 : d 5 = true → x29 = .agg #[.int .i64 p1, .int .i64 p2]
  f6 : d 6 = true → x30 = .slice (some ⟨g, 0, none⟩) 1 1
  f7 : d 7 = true → x31 = .tuple #[.agg #[.int .i64 z1, .int .i64 z2], .bool zb]
  f8 : d 8 = true → x32 = .agg #[.int .i64 z1, .int .i64 z2]
  f9 : d 9 = true → x33 = .bool zb
  f11 : d 11 = true → x7 = .bool zb
  st0 : d 3 = false → S0 w
  st1 : d 3 = true → d 5 = false → S1 u1 w
  st2 : d 5 = true → d 6 = false → S2 u1 u2 w
  st3 : d 6 = true → d 7 = false → S3 u1 u2 g w
  st4 : d 7 = true → d 10 = false → S4 u1 u2 g u3 w
  st5 : d 10 = true → S5 u1 u2 g u3 w
noncomputable def stillOC : Code := (Tryd.f43.body.bind (regionAt 4)).getD .skip
set_option maxRecDepth 100000 in
set_option maxHeartbeats 4000000 in
theorem stillO {bv : Nat} {b4 : Nat} {b5 : Nat} {b6 : Nat} {b8 : Nat} {x : Int} {y : Int} {sa : Int} {sb : Int} {p1 : Int} {p2 : Int} {z1 : Int} {z2 : Int} {zb : Bool} {t0 : Int} {t1 : Int} {t2 : Int} {t3 : Int} {t4 : Int} {t5 : Int} {t6 : Int} {t7 : Int} {t8 : Int} {nz : Int} {fz : Int} {S0 : World → Prop} {S1 : Unit → World → Prop} {S2 : Unit → Unit → World → Prop} {S3 : Unit → Unit → Nat → World → Prop} {S4 : Unit → Unit → Nat → Unit → World → Prop} {S5 : Unit → Unit → Nat → Unit → World → Prop} {Q : Exit → Act → World → Prop} {W1 : World} (hm : ∀ (v : Value) (w : World), (method 323 186 v "pairworks/pair.powers").run Tryd.prog w = .ok (145, v) w) (h0 : S0 W1.drew)
    (kl0 : Hid (∀ (u1 : Unit) (u2 : Unit) (g : Nat) (w : World), (S0 w ∨ S1 u1 w ∨ S2 u1 u2 w ∨ S3 u1 u2 g w) → w.cell? ⟨b5, 0, none⟩ = some (.int .i64 x) ∧ w.cell? ⟨b5, 1, none⟩ = some (.int .i64 y)))
    (kl2 : Hid (∀ (w : World), (S0 w) → w.cell? ⟨b4, 0, none⟩ = some (.int .i64 t0) ∧ w.cell? ⟨b4, 1, none⟩ = some (.int .i64 t1) ∧ w.cell? ⟨b4, 2, none⟩ = some (.int .i64 t2) ∧ w.cell? ⟨b4, 3, none⟩ = some (.int .i64 t3) ∧ w.cell? ⟨b4, 4, none⟩ = some (.int .i64 t4) ∧ w.cell? ⟨b4, 5, none⟩ = some (.int .i64 t5) ∧ w.cell? ⟨b4, 6, none⟩ = some (.int .i64 t6) ∧ w.cell? ⟨b4, 7, none⟩ = some (.int .i64 t7) ∧ w.cell? ⟨b4, 8, none⟩ = some (.int .i64 t8)))
    (kc3 : Hid (∀ (w : World), S0 w → Calls Tryd.prog 83 #[.pointer (some ⟨bv, 0, none⟩), .agg #[.int .i64 t0, .int .i64 t1, .int .i64 t2, .int .i64 t3, .int .i64 t4, .int .i64 t5, .int .i64 t6, .int .i64 t7, .int .i64 t8]] w fun e w' => ∃ u1 : Unit, e = .returned (.iface 186 (.agg #[.int .i64 nz, .int .i64 fz])) ∧ S1 u1 w'))
    (kl4 : Hid (∀ (u1 : Unit) (w : World), (S0 w ∨ S1 u1 w) → w.cell? ⟨b8, 0, none⟩ = some (.int .i64 sa) ∧ w.cell? ⟨b8, 1, none⟩ = some (.int .i64 sb)))
    (kc5 : Hid (∀ (u1 : Unit) (w : World), S1 u1 w → Calls Tryd.prog 145 #[.agg #[.int .i64 nz, .int .i64 fz], .agg #[.int .i64 sa, .int .i64 sb]] w fun e w' => ∃ u2 : Unit, e = .returned (.agg #[.int .i64 p1, .int .i64 p2]) ∧ S2 u1 u2 w'))
    (kc6 : Hid (∀ (u1 : Unit) (u2 : Unit) (w : World), S2 u1 u2 w → S3 u1 u2 w.heap.size (w.alloc (.cells #[.int .i64 p1, .int .i64 p2] 42))))
    (kc7 : Hid (∀ (u1 : Unit) (u2 : Unit) (g : Nat) (w : World), S3 u1 u2 g w → Calls Tryd.prog 82 #[.agg #[.int .i64 x, .int .i64 y], .slice (some ⟨g, 0, none⟩) 1 1] w fun e w' => ∃ u3 : Unit, e = .returned (.tuple #[.agg #[.int .i64 z1, .int .i64 z2], .bool zb]) ∧ S4 u1 u2 g u3 w'))
    (kc10 : Hid (∀ (u1 : Unit) (u2 : Unit) (g : Nat) (u3 : Unit) (w : World), S4 u1 u2 g u3 w → (∃ u, w.cell? ⟨b6, 0, none⟩ = some u) ∧ w.frozen? ⟨b6, 0, none⟩ = false ∧ (∃ u, w.cell? ⟨b6, 1, none⟩ = some u) ∧ w.frozen? ⟨b6, 1, none⟩ = false ∧ S5 u1 u2 g u3 ((w.setCell ⟨b6, 0, none⟩ (.int .i64 z1)).setCell ⟨b6, 1, none⟩ (.int .i64 z2))))
    {s1 s2 s3 s7 s9 s10 s11 s12 s13 s14 s15 s16 s17 s18 s19 s20 s21 s22 s23 s24 s25 s26 s27 s28 s29 s30 s31 s32 s33 : Value} {dd : List Deferred}
    (hQ : ∀ (u1 : Unit) (u2 : Unit) (g : Nat) (u3 : Unit) (w' : World), S5 u1 u2 g u3 w' → Q .normal { tmps := #[.pointer (some ⟨bv, 0, none⟩), s1, s2, s3, .pointer (some ⟨b4, 0, none⟩), .pointer (some ⟨b5, 0, none⟩), .pointer (some ⟨b6, 0, none⟩), .bool zb, .pointer (some ⟨b8, 0, none⟩), s9, s10, s11, s12, s13, s14, s15, s16, s17, s18, s19, s20, s21, s22, s23, .agg #[.int .i64 x, .int .i64 y], .pointer (some ⟨bv, 0, none⟩), .agg #[.int .i64 t0, .int .i64 t1, .int .i64 t2, .int .i64 t3, .int .i64 t4, .int .i64 t5, .int .i64 t6, .int .i64 t7, .int .i64 t8], .iface 186 (.agg #[.int .i64 nz, .int .i64 fz]), .agg #[.int .i64 sa, .int .i64 sb], .agg #[.int .i64 p1, .int .i64 p2], .slice (some ⟨g, 0, none⟩) 1 1, .tuple #[.agg #[.int .i64 z1, .int .i64 z2], .bool zb], .agg #[.int .i64 z1, .int .i64 z2], .bool zb], defers := dd } w') :
    Code.wpIn (wideAt none) 0 Tryd.prog stillOC Q { tmps := #[.pointer (some ⟨bv, 0, none⟩), s1, s2, s3, .pointer (some ⟨b4, 0, none⟩), .pointer (some ⟨b5, 0, none⟩), .pointer (some ⟨b6, 0, none⟩), s7, .pointer (some ⟨b8, 0, none⟩), s9, s10, s11, s12, s13, s14, s15, s16, s17, s18, s19, s20, s21, s22, s23, s24, s25, s26, s27, s28, s29, s30, s31, s32, s33], defers := dd } W1 := by
  have HQ := Lib.hid hQ
  clear hQ
  conv => arg 4; whnf
  refine wpIn_region_invG mixed (by kernel_rfl) (fun d_ a_ w' => ∃ (x24 : Value) (x25 : Value) (x26 : Value) (x27 : Value) (x28 : Value) (x29 : Value) (x30 : Value) (x31 : Value) (x32 : Value) (x33 : Value) (x7 : Value) (u1 : Unit) (u2 : Unit) (g : Nat) (u3 : Unit), a_ = { tmps := #[.pointer (some ⟨bv, 0, none⟩), s1, s2, s3, .pointer (some ⟨b4, 0, none⟩), .pointer (some ⟨b5, 0, none⟩), .pointer (some ⟨b6, 0, none⟩), x7, .pointer (some ⟨b8, 0, none⟩), s9, s10, s11, s12, s13, s14, s15, s16, s17, s18, s19, s20, s21, s22, s23, x24, x25, x26, x27, x28, x29, x30, x31, x32, x33], defers := dd } ∧ stillOF bv b4 b5 b6 b8 x y sa sb p1 p2 z1 z2 zb t0 t1 t2 t3 t4 t5 t6 t7 t8 nz fz S0 S1 S2 S3 S4 S5 d_ x24 x25 x26 x27 x28 x29 x30 x31 x32 x33 x7 u1 u2 g u3 w') ?_ ?_ ?_
  · refine ⟨s24, s25, s26, s27, s28, s29, s30, s31, s32, s33, s7, default, default, 0, default, rfl, ?_⟩
    constructor <;> first | rfl | (intro _; rfl) | (intro h; cases h; done) | (intro _; exact h0) | exact h0
  · refine ⟨?_, ?_, ?_, ?_, ?_, ?_, ?_, ?_, ?_, ?_, ?_, ?_, trivial⟩
    all_goals
      rintro d_ a_ w1 K hd_ hdep ⟨x24, x25, x26, x27, x28, x29, x30, x31, x32, x33, x7, u1, u2, g, u3, rfl, F⟩ HK
      simp [Region.binds] at hdep
    · have hst : S0 w1 ∨ S1 u1 w1 ∨ S2 u1 u2 w1 ∨ S3 u1 u2 g w1 := by
        cases e1 : d_ 3 with
        | false => exact .inl ((F.st0 e1))
        | true =>
          cases e2 : d_ 5 with
          | false => exact .inr (.inl ((F.st1 e1 e2)))
          | true =>
            cases e3 : d_ 6 with
            | false => exact .inr (.inr (.inl ((F.st2 e2 e3))))
            | true =>
              have n_ : d_ 7 = false := by
                cases e_ : d_ 7 with
                | false => rfl
                | true => have h2 := (F.q7 e_).1; rw [show d_ 0 = false from hd_] at h2; cases h2
              exact .inr (.inr (.inr ((F.st3 e3 n_))))
      have kk := kl0.out u1 u2 g w1 hst
      obtain ⟨kk0, kk1⟩ := kk
      clear hst
      have HF : Hid (stillOF bv b4 b5 b6 b8 x y sa sb p1 p2 z1 z2 zb t0 t1 t2 t3 t4 t5 t6 t7 t8 nz fz S0 S1 S2 S3 S4 S5 (upd d_ 0) (.agg #[.int .i64 x, .int .i64 y]) x25 x26 x27 x28 x29 x30 x31 x32 x33 x7 u1 u2 g u3 w1) := ⟨F.q3, F.q5, F.q6, fun h => andM0 (F.q7 h) rfl, F.q8, F.q9, fun h => andM0 (F.q10 h) rfl, fun h => andM0 (F.q11 h) rfl, fun _ => rfl, F.f1, F.f2, F.f3, F.f4, F.f5, F.f6, F.f7, F.f8, F.f9, F.f11, F.st0, F.st1, F.st2, F.st3, F.st4, F.st5⟩
      clear F
      go_simp
      exact HK.out _ _ ⟨_, _, _, _, _, _, _, _, _, _, _, _, _, _, _, rfl, HF.out⟩
    · have HF : Hid (stillOF bv b4 b5 b6 b8 x y sa sb p1 p2 z1 z2 zb t0 t1 t2 t3 t4 t5 t6 t7 t8 nz fz S0 S1 S2 S3 S4 S5 (upd d_ 1) x24 (.pointer (some ⟨bv, 0, none⟩)) x26 x27 x28 x29 x30 x31 x32 x33 x7 u1 u2 g u3 w1) := ⟨fun h => andM0 (F.q3 h) rfl, F.q5, F.q6, F.q7, F.q8, F.q9, fun h => andM1 (F.q10 h) rfl, fun h => andM1 (F.q11 h) rfl, F.f0, fun _ => rfl, F.f2, F.f3, F.f4, F.f5, F.f6, F.f7, F.f8, F.f9, F.f11, F.st0, F.st1, F.st2, F.st3, F.st4, F.st5⟩
      clear F
      go_simp
      exact HK.out _ _ ⟨_, _, _, _, _, _, _, _, _, _, _, _, _, _, _, rfl, HF.out⟩
    · have hst : S0 w1 := by
        have n_ : d_ 3 = false := by
          cases e_ : d_ 3 with
          | false => rfl
          | true => have h2 := (F.q3 e_).2; rw [show d_ 2 = false from hd_] at h2; cases h2
        exact (F.st0 n_)
      have kk := kl2.out w1 hst
      obtain ⟨kk0, kk1, kk2, kk3, kk4, kk5, kk6, kk7, kk8⟩ := kk
      clear hst
      have HF : Hid (stillOF bv b4 b5 b6 b8 x y sa sb p1 p2 z1 z2 zb t0 t1 t2 t3 t4 t5 t6 t7 t8 nz fz S0 S1 S2 S3 S4 S5 (upd d_ 2) x24 x25 (.agg #[.int .i64 t0, .int .i64 t1, .int .i64 t2, .int .i64 t3, .int .i64 t4, .int .i64 t5, .int .i64 t6, .int .i64 t7, .int .i64 t8]) x27 x28 x29 x30 x31 x32 x33 x7 u1 u2 g u3 w1) := ⟨fun h => andL1 (F.q3 h) rfl, F.q5, F.q6, F.q7, F.q8, F.q9, fun h => andM2 (F.q10 h) rfl, fun h => andM2 (F.q11 h) rfl, F.f0, F.f1, fun _ => rfl, F.f3, F.f4, F.f5, F.f6, F.f7, F.f8, F.f9, F.f11, F.st0, F.st1, F.st2, F.st3, F.st4, F.st5⟩
      clear F
      go_simp
      exact HK.out _ _ ⟨_, _, _, _, _, _, _, _, _, _, _, _, _, _, _, rfl, HF.out⟩
    · have hS := F.st0  hd_
      obtain rfl := F.f1 (by simp [hdep])
      obtain rfl := F.f2 (by simp [hdep])
      have hc := kc3.out w1 hS
      have HF := Lib.hid F
      clear F
      go_simp
      refine ⟨trivial, rfl, wideAt_calls (hc.mono ?_)⟩
      rintro e w5 ⟨v_, rfl, hres⟩
      exact HK.out _ _ ⟨_, _, _, _, _, _, _, _, _, _, _, v_, u2, g, u3, rfl, ⟨fun _ => ⟨(show _ from (by simp [hdep] : d_ 1 = true)), (show _ from (by simp [hdep] : d_ 2 = true))⟩, fun h => ⟨rfl, (HF.out.q5 h).2⟩, HF.out.q6, HF.out.q7, HF.out.q8, HF.out.q9, fun h => ⟨(HF.out.q10 h).1, (HF.out.q10 h).2.1, (HF.out.q10 h).2.2.1, rfl, (HF.out.q10 h).2.2.2.2.1, (HF.out.q10 h).2.2.2.2.2.1, (HF.out.q10 h).2.2.2.2.2.2.1, (HF.out.q10 h).2.2.2.2.2.2.2.1, (HF.out.q10 h).2.2.2.2.2.2.2.2.1, (HF.out.q10 h).2.2.2.2.2.2.2.2.2⟩, fun h => ⟨(HF.out.q11 h).1, (HF.out.q11 h).2.1, (HF.out.q11 h).2.2.1, rfl, (HF.out.q11 h).2.2.2.2.1, (HF.out.q11 h).2.2.2.2.2.1, (HF.out.q11 h).2.2.2.2.2.2.1, (HF.out.q11 h).2.2.2.2.2.2.2.1, (HF.out.q11 h).2.2.2.2.2.2.2.2.1, (HF.out.q11 h).2.2.2.2.2.2.2.2.2.1, (HF.out.q11 h).2.2.2.2.2.2.2.2.2.2⟩, HF.out.f0, HF.out.f1, HF.out.f2, fun _ => rfl, HF.out.f4, HF.out.f5, HF.out.f6, HF.out.f7, HF.out.f8, HF.out.f9, HF.out.f11, fun h => (by simp [upd] at h), fun _ _ => hres, fun h _ => (by have h2 : d_ 3 = true := (HF.out.q5 h).1; rw [show d_ 3 = false from hd_] at h2; cases h2), fun h _ => (by have h2 : d_ 3 = true := (HF.out.q5 (HF.out.q6 h)).1; rw [show d_ 3 = false from hd_] at h2; cases h2), fun h _ => (by have h2 : d_ 3 = true := (HF.out.q5 (HF.out.q7 h).2.1).1; rw [show d_ 3 = false from hd_] at h2; cases h2), fun h => (by have h2 : d_ 3 = true := (HF.out.q10 h).2.2.2.1; rw [show d_ 3 = false from hd_] at h2; cases h2)⟩⟩
    · have hst : S0 w1 ∨ S1 u1 w1 := by
        cases e1 : d_ 3 with
        | false => exact .inl ((F.st0 e1))
        | true =>
          have n_ : d_ 5 = false := by
            cases e_ : d_ 5 with
            | false => rfl
            | true => have h2 := (F.q5 e_).2; rw [show d_ 4 = false from hd_] at h2; cases h2
          exact .inr ((F.st1 e1 n_))
      have kk := kl4.out u1 w1 hst
      obtain ⟨kk0, kk1⟩ := kk
      clear hst
      have HF : Hid (stillOF bv b4 b5 b6 b8 x y sa sb p1 p2 z1 z2 zb t0 t1 t2 t3 t4 t5 t6 t7 t8 nz fz S0 S1 S2 S3 S4 S5 (upd d_ 4) x24 x25 x26 x27 (.agg #[.int .i64 sa, .int .i64 sb]) x29 x30 x31 x32 x33 x7 u1 u2 g u3 w1) := ⟨F.q3, fun h => andL1 (F.q5 h) rfl, F.q6, F.q7, F.q8, F.q9, fun h => andM4 (F.q10 h) rfl, fun h => andM4 (F.q11 h) rfl, F.f0, F.f1, F.f2, F.f3, fun _ => rfl, F.f5, F.f6, F.f7, F.f8, F.f9, F.f11, F.st0, F.st1, F.st2, F.st3, F.st4, F.st5⟩
      clear F
      go_simp
      exact HK.out _ _ ⟨_, _, _, _, _, _, _, _, _, _, _, _, _, _, _, rfl, HF.out⟩
    · have hS := F.st1 (by simp [hdep] : d_ 3 = true) hd_
      obtain rfl := F.f3 (by simp [hdep])
      obtain rfl := F.f4 (by simp [hdep])
      have hc := kc5.out u1 w1 hS
      have HF := Lib.hid F
      clear F
      go_simp
      refine ⟨trivial, rfl, wideAt_calls (hc.mono ?_)⟩
      rintro e w5 ⟨v_, rfl, hres⟩
      exact HK.out _ _ ⟨_, _, _, _, _, _, _, _, _, _, _, u1, v_, g, u3, rfl, ⟨HF.out.q3, fun _ => ⟨(show _ from (by simp [hdep] : d_ 3 = true)), (show _ from (by simp [hdep] : d_ 4 = true))⟩, fun h => rfl, fun h => ⟨(HF.out.q7 h).1, rfl, (HF.out.q7 h).2.2⟩, HF.out.q8, HF.out.q9, fun h => ⟨(HF.out.q10 h).1, (HF.out.q10 h).2.1, (HF.out.q10 h).2.2.1, (HF.out.q10 h).2.2.2.1, (HF.out.q10 h).2.2.2.2.1, rfl, (HF.out.q10 h).2.2.2.2.2.2.1, (HF.out.q10 h).2.2.2.2.2.2.2.1, (HF.out.q10 h).2.2.2.2.2.2.2.2.1, (HF.out.q10 h).2.2.2.2.2.2.2.2.2⟩, fun h => ⟨(HF.out.q11 h).1, (HF.out.q11 h).2.1, (HF.out.q11 h).2.2.1, (HF.out.q11 h).2.2.2.1, (HF.out.q11 h).2.2.2.2.1, rfl, (HF.out.q11 h).2.2.2.2.2.2.1, (HF.out.q11 h).2.2.2.2.2.2.2.1, (HF.out.q11 h).2.2.2.2.2.2.2.2.1, (HF.out.q11 h).2.2.2.2.2.2.2.2.2.1, (HF.out.q11 h).2.2.2.2.2.2.2.2.2.2⟩, HF.out.f0, HF.out.f1, HF.out.f2, HF.out.f3, HF.out.f4, fun _ => rfl, HF.out.f6, HF.out.f7, HF.out.f8, HF.out.f9, HF.out.f11, fun h => (by have h2 : d_ 3 = false := h; rw [(by simp [hdep] : d_ 3 = true)] at h2; cases h2), fun _ h => (by simp [upd] at h), fun _ _ => hres, fun h _ => (by have h2 : d_ 5 = true := (HF.out.q6 h); rw [show d_ 5 = false from hd_] at h2; cases h2), fun h _ => (by have h2 : d_ 5 = true := (HF.out.q7 h).2.1; rw [show d_ 5 = false from hd_] at h2; cases h2), fun h => (by have h2 : d_ 5 = true := (HF.out.q10 h).2.2.2.2.2.1; rw [show d_ 5 = false from hd_] at h2; cases h2)⟩⟩
    · have hS := F.st2 (by simp [hdep] : d_ 5 = true) hd_
      obtain rfl := F.f5 (by simp [hdep])
      have hres := kc6.out u1 u2 w1 hS
      have HF : Hid (stillOF bv b4 b5 b6 b8 x y sa sb p1 p2 z1 z2 zb t0 t1 t2 t3 t4 t5 t6 t7 t8 nz fz S0 S1 S2 S3 S4 S5 (upd d_ 6) x24 x25 x26 x27 x28 (.agg #[.int .i64 p1, .int .i64 p2]) ((.slice (some ⟨w1.heap.size, 0, none⟩) 1 1)) x31 x32 x33 x7 u1 u2 w1.heap.size u3 (w1.alloc (.cells #[.int .i64 p1, .int .i64 p2] 42))) := ⟨F.q3, F.q5, fun _ => (show _ from (by simp [hdep] : d_ 5 = true)), fun h => andL2 (F.q7 h) rfl, F.q8, F.q9, fun h => andM6 (F.q10 h) rfl, fun h => andM6 (F.q11 h) rfl, F.f0, F.f1, F.f2, F.f3, F.f4, F.f5, fun _ => rfl, F.f7, F.f8, F.f9, F.f11, fun h => (by have h2 : d_ 3 = false := h; rw [(F.q5 (by simp [hdep] : d_ 5 = true)).1] at h2; cases h2), fun _ h => (by have h2 : d_ 5 = false := h; rw [(by simp [hdep] : d_ 5 = true)] at h2; cases h2), fun _ h => (by simp [upd] at h), fun _ _ => hres, fun h _ => (by have h2 : d_ 6 = true := (F.q7 h).2.2; rw [show d_ 6 = false from hd_] at h2; cases h2), fun h => (by have h2 : d_ 6 = true := (F.q10 h).2.2.2.2.2.2.1; rw [show d_ 6 = false from hd_] at h2; cases h2)⟩
      clear F hS hres
      go_simp
      exact HK.out _ _ ⟨_, _, _, _, _, _, _, _, _, _, _, _, _, _, _, rfl, HF.out⟩
    · have hS := F.st3 (by simp [hdep] : d_ 6 = true) hd_
      obtain rfl := F.f0 (by simp [hdep])
      obtain rfl := F.f6 (by simp [hdep])
      have hc := kc7.out u1 u2 g w1 hS
      have HF := Lib.hid F
      clear F
      go_simp
      refine ⟨trivial, rfl, wideAt_calls (hc.mono ?_)⟩
      rintro e w5 ⟨v_, rfl, hres⟩
      exact HK.out _ _ ⟨_, _, _, _, _, _, _, _, _, _, _, u1, u2, g, v_, rfl, ⟨HF.out.q3, HF.out.q5, HF.out.q6, fun _ => ⟨(show _ from (by simp [hdep] : d_ 0 = true)), (show _ from (by simp [hdep] : d_ 5 = true)), (show _ from (by simp [hdep] : d_ 6 = true))⟩, fun h => rfl, fun h => rfl, fun h => ⟨(HF.out.q10 h).1, (HF.out.q10 h).2.1, (HF.out.q10 h).2.2.1, (HF.out.q10 h).2.2.2.1, (HF.out.q10 h).2.2.2.2.1, (HF.out.q10 h).2.2.2.2.2.1, (HF.out.q10 h).2.2.2.2.2.2.1, rfl, (HF.out.q10 h).2.2.2.2.2.2.2.2.1, (HF.out.q10 h).2.2.2.2.2.2.2.2.2⟩, fun h => ⟨(HF.out.q11 h).1, (HF.out.q11 h).2.1, (HF.out.q11 h).2.2.1, (HF.out.q11 h).2.2.2.1, (HF.out.q11 h).2.2.2.2.1, (HF.out.q11 h).2.2.2.2.2.1, (HF.out.q11 h).2.2.2.2.2.2.1, rfl, (HF.out.q11 h).2.2.2.2.2.2.2.2.1, (HF.out.q11 h).2.2.2.2.2.2.2.2.2.1, (HF.out.q11 h).2.2.2.2.2.2.2.2.2.2⟩, HF.out.f0, HF.out.f1, HF.out.f2, HF.out.f3, HF.out.f4, HF.out.f5, HF.out.f6, fun _ => rfl, HF.out.f8, HF.out.f9, HF.out.f11, fun h => (by have h2 : d_ 3 = false := h; rw [(HF.out.q5 (by simp [hdep] : d_ 5 = true)).1] at h2; cases h2), fun _ h => (by have h2 : d_ 5 = false := h; rw [(by simp [hdep] : d_ 5 = true)] at h2; cases h2), fun _ h => (by have h2 : d_ 6 = false := h; rw [(by simp [hdep] : d_ 6 = true)] at h2; cases h2), fun _ h => (by simp [upd] at h), fun _ _ => hres, fun h => (by have h2 : d_ 7 = true := (HF.out.q10 h).2.2.2.2.2.2.2.1; rw [show d_ 7 = false from hd_] at h2; cases h2)⟩⟩
    · obtain rfl := F.f7 (by simp [hdep])
      have HF : Hid (stillOF bv b4 b5 b6 b8 x y sa sb p1 p2 z1 z2 zb t0 t1 t2 t3 t4 t5 t6 t7 t8 nz fz S0 S1 S2 S3 S4 S5 (upd d_ 8) x24 x25 x26 x27 x28 x29 x30 (.tuple #[.agg #[.int .i64 z1, .int .i64 z2], .bool zb]) (.agg #[.int .i64 z1, .int .i64 z2]) x33 x7 u1 u2 g u3 w1) := ⟨F.q3, F.q5, F.q6, F.q7, fun _ => (show _ from (by simp [hdep] : d_ 7 = true)), F.q9, fun h => andM8 (F.q10 h) rfl, fun h => andM8 (F.q11 h) rfl, F.f0, F.f1, F.f2, F.f3, F.f4, F.f5, F.f6, F.f7, fun _ => rfl, F.f9, F.f11, F.st0, F.st1, F.st2, F.st3, F.st4, F.st5⟩
      clear F
      go_simp
      exact HK.out _ _ ⟨_, _, _, _, _, _, _, _, _, _, _, _, _, _, _, rfl, HF.out⟩
    · obtain rfl := F.f7 (by simp [hdep])
      have HF : Hid (stillOF bv b4 b5 b6 b8 x y sa sb p1 p2 z1 z2 zb t0 t1 t2 t3 t4 t5 t6 t7 t8 nz fz S0 S1 S2 S3 S4 S5 (upd d_ 9) x24 x25 x26 x27 x28 x29 x30 (.tuple #[.agg #[.int .i64 z1, .int .i64 z2], .bool zb]) x32 (.bool zb) x7 u1 u2 g u3 w1) := ⟨F.q3, F.q5, F.q6, F.q7, F.q8, fun _ => (show _ from (by simp [hdep] : d_ 7 = true)), fun h => andL9 (F.q10 h) rfl, fun h => andM9 (F.q11 h) rfl, F.f0, F.f1, F.f2, F.f3, F.f4, F.f5, F.f6, F.f7, F.f8, fun _ => rfl, F.f11, F.st0, F.st1, F.st2, F.st3, F.st4, F.st5⟩
      clear F
      go_simp
      exact HK.out _ _ ⟨_, _, _, _, _, _, _, _, _, _, _, _, _, _, _, rfl, HF.out⟩
    · have hS := F.st4 (by simp [hdep] : d_ 7 = true) hd_
      obtain rfl := F.f8 (by simp [hdep])
      obtain ⟨⟨ku0, kcell0⟩, kfr0, ⟨ku1, kcell1⟩, kfr1, hres⟩ := kc10.out u1 u2 g u3 w1 hS
      have HF : Hid (stillOF bv b4 b5 b6 b8 x y sa sb p1 p2 z1 z2 zb t0 t1 t2 t3 t4 t5 t6 t7 t8 nz fz S0 S1 S2 S3 S4 S5 (upd d_ 10) x24 x25 x26 x27 x28 x29 x30 x31 (.agg #[.int .i64 z1, .int .i64 z2]) x33 x7 u1 u2 g u3 ((w1.setCell ⟨b6, 0, none⟩ (.int .i64 z1)).setCell ⟨b6, 1, none⟩ (.int .i64 z2))) := ⟨F.q3, F.q5, F.q6, F.q7, F.q8, F.q9, fun _ => ⟨(show _ from (by simp [hdep] : d_ 0 = true)), (show _ from (by simp [hdep] : d_ 1 = true)), (show _ from (by simp [hdep] : d_ 2 = true)), (show _ from (by simp [hdep] : d_ 3 = true)), (show _ from (by simp [hdep] : d_ 4 = true)), (show _ from (by simp [hdep] : d_ 5 = true)), (show _ from (by simp [hdep] : d_ 6 = true)), (show _ from (by simp [hdep] : d_ 7 = true)), (show _ from (by simp [hdep] : d_ 8 = true)), (show _ from (by simp [hdep] : d_ 9 = true))⟩, fun h => andL10 (F.q11 h) rfl, F.f0, F.f1, F.f2, F.f3, F.f4, F.f5, F.f6, F.f7, F.f8, F.f9, F.f11, fun h => (by have h2 : d_ 3 = false := h; rw [(by simp [hdep] : d_ 3 = true)] at h2; cases h2), fun _ h => (by have h2 : d_ 5 = false := h; rw [(by simp [hdep] : d_ 5 = true)] at h2; cases h2), fun _ h => (by have h2 : d_ 6 = false := h; rw [(by simp [hdep] : d_ 6 = true)] at h2; cases h2), fun _ h => (by have h2 : d_ 7 = false := h; rw [(by simp [hdep] : d_ 7 = true)] at h2; cases h2), fun _ h => (by simp [upd] at h), fun _ => hres⟩
      clear F hS hres
      go_simp
      exact HK.out _ _ ⟨_, _, _, _, _, _, _, _, _, _, _, _, _, _, _, rfl, HF.out⟩
    · obtain rfl := F.f9 (by simp [hdep])
      have HF : Hid (stillOF bv b4 b5 b6 b8 x y sa sb p1 p2 z1 z2 zb t0 t1 t2 t3 t4 t5 t6 t7 t8 nz fz S0 S1 S2 S3 S4 S5 (upd d_ 11) x24 x25 x26 x27 x28 x29 x30 x31 x32 (.bool zb) (.bool zb) u1 u2 g u3 w1) := ⟨F.q3, F.q5, F.q6, F.q7, F.q8, F.q9, F.q10, fun _ => ⟨(show _ from (by simp [hdep] : d_ 0 = true)), (show _ from (by simp [hdep] : d_ 1 = true)), (show _ from (by simp [hdep] : d_ 2 = true)), (show _ from (by simp [hdep] : d_ 3 = true)), (show _ from (by simp [hdep] : d_ 4 = true)), (show _ from (by simp [hdep] : d_ 5 = true)), (show _ from (by simp [hdep] : d_ 6 = true)), (show _ from (by simp [hdep] : d_ 7 = true)), (show _ from (by simp [hdep] : d_ 8 = true)), (show _ from (by simp [hdep] : d_ 9 = true)), (show _ from (by simp [hdep] : d_ 10 = true))⟩, F.f0, F.f1, F.f2, F.f3, F.f4, F.f5, F.f6, F.f7, F.f8, F.f9, fun _ => rfl, F.st0, F.st1, F.st2, F.st3, F.st4, F.st5⟩
      clear F
      go_simp
      exact HK.out _ _ ⟨_, _, _, _, _, _, _, _, _, _, _, _, _, _, _, rfl, HF.out⟩
  · rintro d_ a_ w1 hall ⟨x24, x25, x26, x27, x28, x29, x30, x31, x32, x33, x7, u1, u2, g, u3, rfl, F⟩
    have hall' : ∀ k, k < 12 → d_ k = true := hall
    obtain rfl := F.f0 (hall' 0 (by decide))
    obtain rfl := F.f1 (hall' 1 (by decide))
    obtain rfl := F.f2 (hall' 2 (by decide))
    obtain rfl := F.f3 (hall' 3 (by decide))
    obtain rfl := F.f4 (hall' 4 (by decide))
    obtain rfl := F.f5 (hall' 5 (by decide))
    obtain rfl := F.f6 (hall' 6 (by decide))
    obtain rfl := F.f7 (hall' 7 (by decide))
    obtain rfl := F.f8 (hall' 8 (by decide))
    obtain rfl := F.f9 (hall' 9 (by decide))
    obtain rfl := F.f11 (hall' 11 (by decide))
    have hst := F.st5 (hall' 10 (by decide))
    exact HQ.out u1 u2 g u3 w1 hst
end Go.Proofs.YtbnhngfegnhaiaaDoor
namespace Go.Proofs.YtbnhngfegnhaiaaDoor
open Go.RowKit
set_option linter.unusedVariables false
set_option linter.unusedSimpArgs false
set_option maxRecDepth 100000 in
set_option maxHeartbeats 8000000 in
theorem still22 {p : Par} {a : Option Addr} {c bv : Nat} {q0 q : Spn} {t : Thg} (ht : t.Sm) (hp : 0 ≤ p.tilt ∧ p.tilt ≤ 1000) (hn : 0 ≤ p.near ∧ p.near ≤ 1073741824) (hf : 0 ≤ p.far ∧ p.far ≤ 1073741824) {w : World} (hV : IsView w bv p a c q0) :
    Calls Tryd.prog 43 #[.pointer (some ⟨bv, 0, none⟩), t.v, q.v] w fun e w' => e = .returned (.tuple #[(p.still t q).1.v, .bool (p.still t q).2]) ∧ Below w.heap.size w w' := by
  have HX := Lib.hid (alloc3 w (t.arr) (q.arr) #[.int .i64 0, .int .i64 0] 46 42 42 _ rfl)
  have HT := Lib.hid (And.intro ht (And.intro hp (And.intro hn hf)))
  have HVW := Lib.hid hV
  clear ht hp hn hf hV
  go_enter Tryd.func43, Tryd.ntmps43
  refine wp_seq_hid ?_
  intro K0 HK0
  go_wp2_with fail
  refine HK0.out _ _ ?_
  clear HK0 K0
  revert HX
  generalize ((w.alloc (.cells (t.arr) 46)).alloc (.cells (q.arr) 42)).alloc (.cells #[.int .i64 0, .int .i64 0] 42) = w1
  intro HX
  have k0 : w1.cell? ⟨w.heap.size, 0, none⟩ = some (.int .i64 t.left.x.lo) := by rw [cell_of_heap HX.out.1]; rfl
  have k1 : w1.cell? ⟨w.heap.size, 1, none⟩ = some (.int .i64 t.left.x.hi) := by rw [cell_of_heap HX.out.1]; rfl
  have k2 : w1.cell? ⟨w.heap.size, 2, none⟩ = some (.int .i64 t.left.y.lo) := by rw [cell_of_heap HX.out.1]; rfl
  have k3 : w1.cell? ⟨w.heap.size, 3, none⟩ = some (.int .i64 t.left.y.hi) := by rw [cell_of_heap HX.out.1]; rfl
  have k4 : w1.cell? ⟨w.heap.size, 4, none⟩ = some (.int .i64 t.right.x.lo) := by rw [cell_of_heap HX.out.1]; rfl
  have k5 : w1.cell? ⟨w.heap.size, 5, none⟩ = some (.int .i64 t.right.x.hi) := by rw [cell_of_heap HX.out.1]; rfl
  have k6 : w1.cell? ⟨w.heap.size, 6, none⟩ = some (.int .i64 t.right.y.lo) := by rw [cell_of_heap HX.out.1]; rfl
  have k7 : w1.cell? ⟨w.heap.size, 7, none⟩ = some (.int .i64 t.right.y.hi) := by rw [cell_of_heap HX.out.1]; rfl
  have k8 : w1.cell? ⟨w.heap.size, 8, none⟩ = some (.int .i64 t.far) := by rw [cell_of_heap HX.out.1]; rfl
  refine wp_seq_hid ?_
  intro K1 HK1
  go_wp2_with fail
  refine (shown24 t HT.out.1 _).mono ?_
  clear k0 k1 k2 k3 k4 k5 k6 k7 k8
  rintro e w2 ⟨rfl, hb⟩
  have HB := Lib.hid hb
  clear hb
  have HY : Hid ((w2.alloc (.cells t.shown.arr 42)).heap[w2.heap.size]? = some (.cells t.shown.arr 42 (0, 0)) ∧ Below w1.heap.size w1 (w2.alloc (.cells t.shown.arr 42))) := ⟨World.alloc_heap_new _ _, HB.out.trans ((alloc_below _ _).mono HB.out.size)⟩
  go_wp2_with fail
  refine HK1.out _ _ ?_
  clear HK1 K1 HB
  revert HY
  generalize w2.alloc (.cells t.shown.arr 42) = w3
  generalize w2.heap.size = b8
  intro HY
  have KG : Hid (∀ v, Below w3.heap.size w3 v → IsView v bv p a c q0 ∧ v.heap[w.heap.size]? = some (.cells t.arr 46 (0, 0)) ∧ v.heap[w.heap.size + 1]? = some (.cells q.arr 42 (0, 0)) ∧ v.heap[w.heap.size + 2]? = some (.cells #[.int .i64 0, .int .i64 0] 42 (0, 0)) ∧ v.heap[b8]? = some (.cells t.shown.arr 42 (0, 0)) ∧ Below w.heap.size w v) := fun v hv => by
    have h1 := HY.out.2.trans (hv.mono HY.out.2.size)
    have h0 := HX.out.2.2.2.trans (h1.mono HX.out.2.2.2.size)
    exact ⟨HVW.out.mono h0, (h1.block _ (heap_lt HX.out.1)).trans HX.out.1, (h1.block _ (heap_lt HX.out.2.1)).trans HX.out.2.1, (h1.block _ (heap_lt HX.out.2.2.1)).trans HX.out.2.2.1, (hv.block _ (heap_lt HY.out.1)).trans HY.out.1, h0⟩
  refine wp_seq_hid ?_
  intro K2 HK2
  cases his : t.shown.is
  case false =>
    have HST : Hid (p.still t q = (q, false)) := by unfold Par.still Par.can; rw [Hid, his]; rfl
    have KF := KG
    have HB4 := Lib.hid (Below.refl w3.heap.size w3)
    clear his
    have hq5 := (KF.out w3 HB4.out).2.2.1
    have hq6 := (KF.out w3 HB4.out).2.2.2.1
    have a0 : w3.cell? ⟨w.heap.size + 1, 0, none⟩ = some (.int .i64 q.lo) := by rw [cell_of_heap hq5]; rfl
    have a1 : w3.cell? ⟨w.heap.size + 1, 1, none⟩ = some (.int .i64 q.hi) := by rw [cell_of_heap hq5]; rfl
    have z0 : w3.cell? ⟨w.heap.size + 2, 0, none⟩ = some (.int .i64 0) := by rw [cell_of_heap hq6]; rfl
    have z1 : w3.cell? ⟨w.heap.size + 2, 1, none⟩ = some (.int .i64 0) := by rw [cell_of_heap hq6]; rfl
    have f0 : ∀ k, w3.frozen? ⟨w.heap.size + 2, k, none⟩ = false := fun k => frozen_of_heap hq6
    clear hq5 hq6
    go_wp2_with fail
    have h4 := heap_setCell_at (k := 1) (heap_setCell_at (k := 0) (KF.out _ HB4.out).2.2.2.1 (.int .i64 q.lo)) (.int .i64 q.hi)
    have hle : w.heap.size ≤ w.heap.size + 2 := Nat.le_add_right _ _
    have hbb := (KF.out _ HB4.out).2.2.2.2.2
    exact bodyPost_ret (res_c2t rfl _ rfl rfl (by rw [cell_of_heap h4]; rfl) (by rw [cell_of_heap h4]; rfl)) rfl ⟨by rw [HST.out]; rfl, (hbb.setCell (p := ⟨w.heap.size + 2, _, none⟩) hle _).setCell (p := ⟨w.heap.size + 2, _, none⟩) hle _⟩
  case true =>
    have hq4 := (KG.out w3 (Below.refl _ _)).2.1
    have k0 : w3.cell? ⟨w.heap.size, 0, none⟩ = some (.int .i64 t.left.x.lo) := by rw [cell_of_heap hq4]; rfl
    have k1 : w3.cell? ⟨w.heap.size, 1, none⟩ = some (.int .i64 t.left.x.hi) := by rw [cell_of_heap hq4]; rfl
    have k2 : w3.cell? ⟨w.heap.size, 2, none⟩ = some (.int .i64 t.left.y.lo) := by rw [cell_of_heap hq4]; rfl
    have k3 : w3.cell? ⟨w.heap.size, 3, none⟩ = some (.int .i64 t.left.y.hi) := by rw [cell_of_heap hq4]; rfl
    have k4 : w3.cell? ⟨w.heap.size, 4, none⟩ = some (.int .i64 t.right.x.lo) := by rw [cell_of_heap hq4]; rfl
    have k5 : w3.cell? ⟨w.heap.size, 5, none⟩ = some (.int .i64 t.right.x.hi) := by rw [cell_of_heap hq4]; rfl
    have k6 : w3.cell? ⟨w.heap.size, 6, none⟩ = some (.int .i64 t.right.y.lo) := by rw [cell_of_heap hq4]; rfl
    have k7 : w3.cell? ⟨w.heap.size, 7, none⟩ = some (.int .i64 t.right.y.hi) := by rw [cell_of_heap hq4]; rfl
    have k8 : w3.cell? ⟨w.heap.size, 8, none⟩ = some (.int .i64 t.far) := by rw [cell_of_heap hq4]; rfl
    have HIS := Lib.hid his
    clear hq4 his
    go_wp2_with fail
    refine (level42 HT.out.1 HT.out.2.1 (KG.out w3 (Below.refl _ _)).1).mono ?_
    clear k0 k1 k2 k3 k4 k5 k6 k7 k8
    rintro e w4 ⟨rfl, hb⟩
    have HB4 := Lib.hid hb
    have KF : Hid (∀ v, Below w4.heap.size w4 v → IsView v bv p a c q0 ∧ v.heap[w.heap.size]? = some (.cells t.arr 46 (0, 0)) ∧ v.heap[w.heap.size + 1]? = some (.cells q.arr 42 (0, 0)) ∧ v.heap[w.heap.size + 2]? = some (.cells #[.int .i64 0, .int .i64 0] 42 (0, 0)) ∧ v.heap[b8]? = some (.cells t.shown.arr 42 (0, 0)) ∧ Below w.heap.size w v) := fun v hv => KG.out v (HB4.out.trans (hv.mono HB4.out.size))
    clear hb HB4
    have HB4 := Lib.hid (Below.refl w4.heap.size w4)
    cases hlv : p.level t
    case false =>
      have HST : Hid (p.still t q = (q, false)) := by unfold Par.still Par.can; rw [Hid, HIS.out, hlv]; rfl
      clear hlv
      have hq5 := (KF.out w4 HB4.out).2.2.1
      have hq6 := (KF.out w4 HB4.out).2.2.2.1
      have a0 : w4.cell? ⟨w.heap.size + 1, 0, none⟩ = some (.int .i64 q.lo) := by rw [cell_of_heap hq5]; rfl
      have a1 : w4.cell? ⟨w.heap.size + 1, 1, none⟩ = some (.int .i64 q.hi) := by rw [cell_of_heap hq5]; rfl
      have z0 : w4.cell? ⟨w.heap.size + 2, 0, none⟩ = some (.int .i64 0) := by rw [cell_of_heap hq6]; rfl
      have z1 : w4.cell? ⟨w.heap.size + 2, 1, none⟩ = some (.int .i64 0) := by rw [cell_of_heap hq6]; rfl
      have f0 : ∀ k, w4.frozen? ⟨w.heap.size + 2, k, none⟩ = false := fun k => frozen_of_heap hq6
      clear hq5 hq6
      go_wp2_with fail
      have h4 := heap_setCell_at (k := 1) (heap_setCell_at (k := 0) (KF.out _ HB4.out).2.2.2.1 (.int .i64 q.lo)) (.int .i64 q.hi)
      have hle : w.heap.size ≤ w.heap.size + 2 := Nat.le_add_right _ _
      have hbb := (KF.out _ HB4.out).2.2.2.2.2
      exact bodyPost_ret (res_c2t rfl _ rfl rfl (by rw [cell_of_heap h4]; rfl) (by rw [cell_of_heap h4]; rfl)) rfl ⟨by rw [HST.out]; rfl, (hbb.setCell (p := ⟨w.heap.size + 2, _, none⟩) hle _).setCell (p := ⟨w.heap.size + 2, _, none⟩) hle _⟩
    case true =>
      have HST : Hid (p.still t q = (q.cut (p.powers t t.shown), (q.cut (p.powers t t.shown)).is)) := by unfold Par.still Par.can; rw [Hid, HIS.out, hlv]; rfl
      have HSB : Hid ((0 ≤ t.shown.lo ∧ t.shown.lo ≤ 2000) ∧ (0 ≤ t.shown.hi ∧ t.shown.hi ≤ 2000)) := by
        have h := HIS.out
        unfold Spn.is Thg.shown Spn.cut at h
        simp only [decide_eq_true_eq] at h
        unfold Thg.shown Spn.cut
        rw [Hid]
        simp only
        omega
      clear hlv
      go_wp2_with fail
      refine HK2.out _ _ ?_
      refine wp_seq_hid ?_
      intro K4 HK4
      go_upto_region 4 with fail
      by_cases htf : t.far = 0
      · have HTF := Lib.hid htf
        clear htf
        refine wpIn_wide.1 (stillO (bv := bv) (b4 := w.heap.size) (b5 := w.heap.size + 1) (b6 := w.heap.size + 2) (b8 := b8) (x := q.lo) (y := q.hi) (sa := t.shown.lo) (sb := t.shown.hi) (p1 := (p.powers t t.shown).lo) (p2 := (p.powers t t.shown).hi) (z1 := (q.cut (p.powers t t.shown)).lo) (z2 := (q.cut (p.powers t t.shown)).hi) (zb := (q.cut (p.powers t t.shown)).is) (t0 := t.left.x.lo) (t1 := t.left.x.hi) (t2 := t.left.y.lo) (t3 := t.left.y.hi) (t4 := t.right.x.lo) (t5 := t.right.x.hi) (t6 := t.right.y.lo) (t7 := t.right.y.hi) (t8 := t.far) (nz := p.near) (fz := p.far)
          (S0 := fun v => Below w4.heap.size w4 v) (S1 := fun _ v => Below w4.heap.size w4 v) (S2 := fun _ _ v => Below w4.heap.size w4 v) (S3 := fun _ _ g v => Below w4.heap.size w4 v ∧ v.heap[g]? = some (.cells #[.int .i64 (p.powers t t.shown).lo, .int .i64 (p.powers t t.shown).hi] 42 (0, 0))) (S4 := fun _ _ _ _ v => Below w4.heap.size w4 v) (S5 := fun _ _ _ _ v => Below w.heap.size w v ∧ v.heap[w.heap.size + 2]? = some (.cells (q.cut (p.powers t t.shown)).arr 42 (0, 0)))
          meth123 ?h0 ?l0 ?l2 ?c3 ?l4 ?c5 ?c6 ?c7 ?c10 ?hQ)
        case h0 => exact (Below.refl _ _).drew
        case l0 =>
          rintro u1 u2 g v (h | h | h | h)
          · exact ⟨by rw [cell_of_heap (KF.out v h).2.2.1]; rfl, by rw [cell_of_heap (KF.out v h).2.2.1]; rfl⟩
          · exact ⟨by rw [cell_of_heap (KF.out v h).2.2.1]; rfl, by rw [cell_of_heap (KF.out v h).2.2.1]; rfl⟩
          · exact ⟨by rw [cell_of_heap (KF.out v h).2.2.1]; rfl, by rw [cell_of_heap (KF.out v h).2.2.1]; rfl⟩
          · exact ⟨by rw [cell_of_heap (KF.out v h.1).2.2.1]; rfl, by rw [cell_of_heap (KF.out v h.1).2.2.1]; rfl⟩
        case l2 =>
          intro v h
          have hq := (KF.out v h).2.1
          refine ⟨?_, ?_, ?_, ?_, ?_, ?_, ?_, ?_, ?_⟩ <;> (rw [cell_of_heap hq]; rfl)
        case c3 =>
          intro v h
          refine (of43 (t := t) (KF.out v h).1).mono ?_
          rintro e v' ⟨rfl, hb⟩
          exact ⟨(), by unfold sayV; rw [if_pos HTF.out], h.trans (hb.mono h.size)⟩
        case l4 =>
          rintro u1 v (h | h)
          · exact ⟨by rw [cell_of_heap (KF.out v h).2.2.2.2.1]; rfl, by rw [cell_of_heap (KF.out v h).2.2.2.2.1]; rfl⟩
          · exact ⟨by rw [cell_of_heap (KF.out v h).2.2.2.2.1]; rfl, by rw [cell_of_heap (KF.out v h).2.2.2.2.1]; rfl⟩
        case c5 =>
          intro u1 v h
          refine (powers106 HSB.out.1 HSB.out.2 HT.out.2.2.1 HT.out.2.2.2 v).mono ?_
          rintro e v' ⟨rfl, hb⟩
          exact ⟨(), by unfold Par.powers; rw [if_pos HTF.out], h.trans (hb.mono h.size)⟩
        case c6 => exact fun u1 u2 v h => ⟨h.alloc h.size _, World.alloc_heap_new _ _⟩
        case c7 =>
          intro u1 u2 g v h
          refine (narrowed25 (q := q) (s := p.powers t t.shown) (by rw [cell_of_heap h.2]; rfl) (by rw [cell_of_heap h.2]; rfl)).mono ?_
          rintro e v' ⟨rfl, hb⟩
          exact ⟨(), rfl, h.1.trans (hb.mono h.1.size)⟩
        case c10 =>
          intro u1 u2 g u3 v h
          have hq := (KF.out v h).2.2.2.1
          have hb := (KF.out v h).2.2.2.2.2
          have hle : w.heap.size ≤ w.heap.size + 2 := Nat.le_add_right _ _
          exact ⟨⟨_, by rw [cell_of_heap hq]; rfl⟩, frozen_of_heap hq, ⟨_, by rw [cell_of_heap hq]; rfl⟩, frozen_of_heap hq, (hb.setCell (p := ⟨w.heap.size + 2, 0, none⟩) hle _).setCell (p := ⟨w.heap.size + 2, 1, none⟩) hle _, heap_setCell_at (k := 1) (heap_setCell_at (k := 0) hq _) _⟩
        intro u1 u2 g u3 v h
        have H := Lib.hid h
        clear h
        go_wp2_with fail
        refine HK4.out _ _ ?_
        go_wp2_with fail
        exact bodyPost_ret (res_c2t rfl _ rfl rfl (by rw [cell_of_heap H.out.2]; rfl) (by rw [cell_of_heap H.out.2]; rfl)) rfl ⟨by rw [HST.out]; rfl, H.out.1⟩
      · have HTF := Lib.hid htf
        clear htf
        refine wpIn_wide.1 (stillM (bv := bv) (b4 := w.heap.size) (b5 := w.heap.size + 1) (b6 := w.heap.size + 2) (b8 := b8) (x := q.lo) (y := q.hi) (sa := t.shown.lo) (sb := t.shown.hi) (p1 := (p.powers t t.shown).lo) (p2 := (p.powers t t.shown).hi) (z1 := (q.cut (p.powers t t.shown)).lo) (z2 := (q.cut (p.powers t t.shown)).hi) (zb := (q.cut (p.powers t t.shown)).is) (t0 := t.left.x.lo) (t1 := t.left.x.hi) (t2 := t.left.y.lo) (t3 := t.left.y.hi) (t4 := t.right.x.lo) (t5 := t.right.x.hi) (t6 := t.right.y.lo) (t7 := t.right.y.hi) (t8 := t.far) (fz := t.far)
          (S0 := fun v => Below w4.heap.size w4 v) (S1 := fun _ v => Below w4.heap.size w4 v) (S2 := fun _ _ v => Below w4.heap.size w4 v) (S3 := fun _ _ g v => Below w4.heap.size w4 v ∧ v.heap[g]? = some (.cells #[.int .i64 (p.powers t t.shown).lo, .int .i64 (p.powers t t.shown).hi] 42 (0, 0))) (S4 := fun _ _ _ _ v => Below w4.heap.size w4 v) (S5 := fun _ _ _ _ v => Below w.heap.size w v ∧ v.heap[w.heap.size + 2]? = some (.cells (q.cut (p.powers t t.shown)).arr 42 (0, 0)))
          meth121 ?h0_b ?l0_b ?l2_b ?c3_b ?l4_b ?c5_b ?c6_b ?c7_b ?c10_b ?hQ_b)
        case h0_b => exact (Below.refl _ _).drew
        case l0_b =>
          rintro u1 u2 g v (h | h | h | h)
          · exact ⟨by rw [cell_of_heap (KF.out v h).2.2.1]; rfl, by rw [cell_of_heap (KF.out v h).2.2.1]; rfl⟩
          · exact ⟨by rw [cell_of_heap (KF.out v h).2.2.1]; rfl, by rw [cell_of_heap (KF.out v h).2.2.1]; rfl⟩
          · exact ⟨by rw [cell_of_heap (KF.out v h).2.2.1]; rfl, by rw [cell_of_heap (KF.out v h).2.2.1]; rfl⟩
          · exact ⟨by rw [cell_of_heap (KF.out v h.1).2.2.1]; rfl, by rw [cell_of_heap (KF.out v h.1).2.2.1]; rfl⟩
        case l2_b =>
          intro v h
          have hq := (KF.out v h).2.1
          refine ⟨?_, ?_, ?_, ?_, ?_, ?_, ?_, ?_, ?_⟩ <;> (rw [cell_of_heap hq]; rfl)
        case c3_b =>
          intro v h
          refine (of43 (t := t) (KF.out v h).1).mono ?_
          rintro e v' ⟨rfl, hb⟩
          exact ⟨(), by unfold sayV; rw [if_neg HTF.out], h.trans (hb.mono h.size)⟩
        case l4_b =>
          rintro u1 v (h | h)
          · exact ⟨by rw [cell_of_heap (KF.out v h).2.2.2.2.1]; rfl, by rw [cell_of_heap (KF.out v h).2.2.2.2.1]; rfl⟩
          · exact ⟨by rw [cell_of_heap (KF.out v h).2.2.2.2.1]; rfl, by rw [cell_of_heap (KF.out v h).2.2.2.2.1]; rfl⟩
        case c5_b =>
          intro u1 v h
          refine (powers105 HSB.out.1 HSB.out.2 HT.out.1.k v).mono ?_
          rintro e v' ⟨rfl, hb⟩
          exact ⟨(), by unfold Par.powers; rw [if_neg HTF.out], h.trans (hb.mono h.size)⟩
        case c6_b => exact fun u1 u2 v h => ⟨h.alloc h.size _, World.alloc_heap_new _ _⟩
        case c7_b =>
          intro u1 u2 g v h
          refine (narrowed25 (q := q) (s := p.powers t t.shown) (by rw [cell_of_heap h.2]; rfl) (by rw [cell_of_heap h.2]; rfl)).mono ?_
          rintro e v' ⟨rfl, hb⟩
          exact ⟨(), rfl, h.1.trans (hb.mono h.1.size)⟩
        case c10_b =>
          intro u1 u2 g u3 v h
          have hq := (KF.out v h).2.2.2.1
          have hb := (KF.out v h).2.2.2.2.2
          have hle : w.heap.size ≤ w.heap.size + 2 := Nat.le_add_right _ _
          exact ⟨⟨_, by rw [cell_of_heap hq]; rfl⟩, frozen_of_heap hq, ⟨_, by rw [cell_of_heap hq]; rfl⟩, frozen_of_heap hq, (hb.setCell (p := ⟨w.heap.size + 2, 0, none⟩) hle _).setCell (p := ⟨w.heap.size + 2, 1, none⟩) hle _, heap_setCell_at (k := 1) (heap_setCell_at (k := 0) hq _) _⟩
        intro u1 u2 g u3 v h
        have H := Lib.hid h
        clear h
        go_wp2_with fail
        refine HK4.out _ _ ?_
        go_wp2_with fail
        exact bodyPost_ret (res_c2t rfl _ rfl rfl (by rw [cell_of_heap H.out.2]; rfl) (by rw [cell_of_heap H.out.2]; rfl)) rfl ⟨by rw [HST.out]; rfl, H.out.1⟩
end Go.Proofs.YtbnhngfegnhaiaaDoor
namespace Go.Proofs.YtbnhngfegnhaiaaDoor
open Go.RowKit
set_option linter.unusedVariables false
set_option linter.unusedSimpArgs false
/-- Where the first one lies that a list is asked for. -/
def idxL {α : Type} (P : α → Bool) : List α → Nat → Int
  | [], _ => -1
  | x :: r, k => if P x then (k : Int) else idxL P r (k + 1)
theorem idxL_any {α : Type} (P : α → Bool) : ∀ (l : List α) (k : Nat), decide (0 ≤ idxL P l k) = l.any P
  | [], _ => rfl
  | x :: r, k => by
    unfold idxL
    by_cases h : P x = true
    · rw [if_pos h, List.any_cons, h]; simp
    · rw [if_neg h, List.any_cons, idxL_any P r (k + 1)]
      simp at h
      rw [h]; rfl
theorem idxL_drop {α : Type} {P : α → Bool} {l : List α} {k : Nat} (h : k < l.length) : idxL P (l.drop k) k = if P l[k] then (k : Int) else idxL P (l.drop (k + 1)) (k + 1) := by
  rw [List.drop_eq_getElem_cons h]
  rfl
/-- What the closure that a thing is asked by has caught. -/
structure BadT (W : World) (bk bp : Nat) (p : Par) (a : Option Addr) (c : Nat) : Prop where
  k : W.cell? ⟨bk, 0, none⟩ = some (.func (.func 101) #[] #[])
  p : W.heap[bp]? = some (.cells (p.arr a c) 40 (0, 0))
theorem BadT.mono {W W' : World} {bk bp : Nat} {p : Par} {a : Option Addr} {c : Nat} (h : BadT W bk bp p a c) (hb : Below W.heap.size W W') : BadT W' bk bp p a c := ⟨cell_stays hb h.k, (hb.block _ (heap_lt h.p)).trans h.p⟩
theorem cf74 (args : Array Value) (w : World) : (callFunc 101 args).run Tryd.prog w = .ok (.enter 101 args) w := by simp [callFunc, Tryd.func101, Tryd.f101, go_sem]
theorem cf76 (args : Array Value) (w : World) : (callFunc 103 args).run Tryd.prog w = .ok (.enter 103 args) w := by simp [callFunc, Tryd.func103, Tryd.f103, go_sem]
set_option maxRecDepth 100000 in
set_option maxHeartbeats 4000000 in
theorem bad76 {p : Par} {t : Thg} {a : Option Addr} {c bk bp : Nat} {w : World} (hB : BadT w bk bp p a c) :
    Calls Tryd.prog 103 #[t.v, .pointer (some ⟨bk, 0, none⟩), .pointer (some ⟨bp, 0, none⟩)] w fun e w' => e = .returned (.bool (!thgOk p t)) ∧ Below w.heap.size w w' := by
  have HX : Hid ((w.alloc (.cells t.arr 46)).heap[w.heap.size]? = some (.cells t.arr 46 (0, 0)) ∧ Below w.heap.size w (w.alloc (.cells t.arr 46)) ∧ BadT (w.alloc (.cells t.arr 46)) bk bp p a c) := ⟨World.alloc_heap_new w _, alloc_below _ _, hB.mono (alloc_below _ _)⟩
  clear hB
  go_enter Tryd.func103, Tryd.ntmps103
  refine wp_seq_hid ?_
  intro K0 HK0
  go_wp2_with fail
  refine HK0.out _ _ ?_
  clear HK0 K0
  revert HX
  generalize w.alloc (.cells t.arr 46) = w1
  intro HX
  have KF : Hid (∀ v, Below w1.heap.size w1 v → v.heap[w.heap.size]? = some (.cells t.arr 46 (0, 0)) ∧ v.cell? ⟨bk, 0, none⟩ = some (.func (.func 101) #[] #[]) ∧ ParC v bp 0 p a c ∧ Below w.heap.size w v) := fun v hv => ⟨(hv.block _ (heap_lt HX.out.1)).trans HX.out.1, (HX.out.2.2.mono hv).k, par_cells (HX.out.2.2.mono hv).p, HX.out.2.1.trans (hv.mono HX.out.2.1.size)⟩
  have HB1 := Lib.hid (Below.refl w1.heap.size w1)
  have cf := cf74
  have hq := (KF.out w1 HB1.out).1
  have m0 := (KF.out w1 HB1.out).2.1
  have k0 : w1.cell? ⟨w.heap.size, 0, none⟩ = some (.int .i64 t.left.x.lo) := by rw [cell_of_heap hq]; rfl
  have k1 : w1.cell? ⟨w.heap.size, 1, none⟩ = some (.int .i64 t.left.x.hi) := by rw [cell_of_heap hq]; rfl
  have k2 : w1.cell? ⟨w.heap.size, 2, none⟩ = some (.int .i64 t.left.y.lo) := by rw [cell_of_heap hq]; rfl
  have k3 : w1.cell? ⟨w.heap.size, 3, none⟩ = some (.int .i64 t.left.y.hi) := by rw [cell_of_heap hq]; rfl
  have k4 : w1.cell? ⟨w.heap.size, 4, none⟩ = some (.int .i64 t.right.x.lo) := by rw [cell_of_heap hq]; rfl
  have k5 : w1.cell? ⟨w.heap.size, 5, none⟩ = some (.int .i64 t.right.x.hi) := by rw [cell_of_heap hq]; rfl
  have k6 : w1.cell? ⟨w.heap.size, 6, none⟩ = some (.int .i64 t.right.y.lo) := by rw [cell_of_heap hq]; rfl
  have k7 : w1.cell? ⟨w.heap.size, 7, none⟩ = some (.int .i64 t.right.y.hi) := by rw [cell_of_heap hq]; rfl
  have k8 : w1.cell? ⟨w.heap.size, 8, none⟩ = some (.int .i64 t.far) := by rw [cell_of_heap hq]; rfl
  clear hq
  go_wp2_with fail
  refine (place74 t.left _).mono ?_
  clear m0 k0 k1 k2 k3 k4 k5 k6 k7 k8
  rintro e w2 ⟨rfl, hb⟩
  have HB2 := Lib.hid hb
  clear hb
  have hq := (KF.out w2 HB2.out).1
  have m0 := (KF.out w2 HB2.out).2.1
  have k0 : w2.cell? ⟨w.heap.size, 0, none⟩ = some (.int .i64 t.left.x.lo) := by rw [cell_of_heap hq]; rfl
  have k1 : w2.cell? ⟨w.heap.size, 1, none⟩ = some (.int .i64 t.left.x.hi) := by rw [cell_of_heap hq]; rfl
  have k2 : w2.cell? ⟨w.heap.size, 2, none⟩ = some (.int .i64 t.left.y.lo) := by rw [cell_of_heap hq]; rfl
  have k3 : w2.cell? ⟨w.heap.size, 3, none⟩ = some (.int .i64 t.left.y.hi) := by rw [cell_of_heap hq]; rfl
  have k4 : w2.cell? ⟨w.heap.size, 4, none⟩ = some (.int .i64 t.right.x.lo) := by rw [cell_of_heap hq]; rfl
  have k5 : w2.cell? ⟨w.heap.size, 5, none⟩ = some (.int .i64 t.right.x.hi) := by rw [cell_of_heap hq]; rfl
  have k6 : w2.cell? ⟨w.heap.size, 6, none⟩ = some (.int .i64 t.right.y.lo) := by rw [cell_of_heap hq]; rfl
  have k7 : w2.cell? ⟨w.heap.size, 7, none⟩ = some (.int .i64 t.right.y.hi) := by rw [cell_of_heap hq]; rfl
  have k8 : w2.cell? ⟨w.heap.size, 8, none⟩ = some (.int .i64 t.far) := by rw [cell_of_heap hq]; rfl
  clear hq
  cases hl : t.left.ok
  case false =>
    have HL := Lib.hid hl
    clear hl
    go_wp2_with fail
    all_goals first
      | (refine ⟨fun _ _ => trivial, ?_⟩; go_wp2_with fail)
      | skip
    go_ret
    exact ⟨ret_bool (by unfold thgOk; rw [HL.out]; rfl), (KF.out _ HB2.out).2.2.2⟩
  case true =>
    have HL := Lib.hid hl
    clear hl
    go_wp2_with fail
    refine (place74 t.right _).mono ?_
    clear m0 k0 k1 k2 k3 k4 k5 k6 k7 k8
    rintro e w3 ⟨rfl, hb⟩
    have HB3 := Lib.hid (HB2.out.trans (hb.mono HB2.out.size))
    clear hb
    have hq := (KF.out w3 HB3.out).1
    obtain ⟨_, _, _, _, _, p5, p6, _⟩ := (KF.out w3 HB3.out).2.2.1
    have n5 : w3.cell? ⟨bp, 5, none⟩ = some (.int .i64 p.near) := p5
    have n6 : w3.cell? ⟨bp, 6, none⟩ = some (.int .i64 p.far) := p6
    have k0 : w3.cell? ⟨w.heap.size, 0, none⟩ = some (.int .i64 t.left.x.lo) := by rw [cell_of_heap hq]; rfl
    have k1 : w3.cell? ⟨w.heap.size, 1, none⟩ = some (.int .i64 t.left.x.hi) := by rw [cell_of_heap hq]; rfl
    have k2 : w3.cell? ⟨w.heap.size, 2, none⟩ = some (.int .i64 t.left.y.lo) := by rw [cell_of_heap hq]; rfl
    have k3 : w3.cell? ⟨w.heap.size, 3, none⟩ = some (.int .i64 t.left.y.hi) := by rw [cell_of_heap hq]; rfl
    have k4 : w3.cell? ⟨w.heap.size, 4, none⟩ = some (.int .i64 t.right.x.lo) := by rw [cell_of_heap hq]; rfl
    have k5 : w3.cell? ⟨w.heap.size, 5, none⟩ = some (.int .i64 t.right.x.hi) := by rw [cell_of_heap hq]; rfl
    have k6 : w3.cell? ⟨w.heap.size, 6, none⟩ = some (.int .i64 t.right.y.lo) := by rw [cell_of_heap hq]; rfl
    have k7 : w3.cell? ⟨w.heap.size, 7, none⟩ = some (.int .i64 t.right.y.hi) := by rw [cell_of_heap hq]; rfl
    have k8 : w3.cell? ⟨w.heap.size, 8, none⟩ = some (.int .i64 t.far) := by rw [cell_of_heap hq]; rfl
    clear hq p5 p6
    cases hr : t.right.ok
    case false =>
      have HR := Lib.hid hr
      clear hr
      go_wp2_with fail
      all_goals first
        | (refine ⟨fun _ _ => trivial, ?_⟩; go_wp2_with fail)
        | skip
      go_ret
      exact ⟨ret_bool (by unfold thgOk; rw [HL.out, HR.out]; rfl), (KF.out _ HB3.out).2.2.2⟩
    case true =>
      have HR := Lib.hid hr
      clear hr
      by_cases hz : t.far = 0
      · have HZ := Lib.hid hz
        have hn : (t.far != 0) = false := by simp [hz]
        clear hz
        go_wp2_with fail
        all_goals first
          | (refine ⟨fun _ _ => trivial, ?_⟩; go_wp2_with fail)
          | skip
        go_ret
        exact ⟨ret_bool (by unfold thgOk; rw [HL.out, HR.out, HZ.out]; rfl), (KF.out _ HB3.out).2.2.2⟩
      · have HZ := Lib.hid hz
        have hn : (t.far != 0) = true := by simp [hz]
        clear hz
        go_wp2_with fail
        refine (within58 _ _ _ _).mono ?_
        rintro e w4 ⟨rfl, rfl⟩
        go_wp2_with fail
        go_ret
        exact ⟨ret_bool (by unfold thgOk; rw [HL.out, HR.out, decide_eq_false HZ.out]; simp), (KF.out _ HB3.out).2.2.2⟩
set_option maxRecDepth 100000 in
set_option maxHeartbeats 4000000 in
theorem index85 {p : Par} {l : List Thg} {a ap : Option Addr} {c cp bk bp : Nat} {w : World} (hB : BadT w bk bp p ap cp) (ha : IsThs w a l) (hl : l.length ≤ 1000000) :
    Calls Tryd.prog 112 #[.slice a l.length c, .func (.func 103) #[] #[.pointer (some ⟨bk, 0, none⟩), .pointer (some ⟨bp, 0, none⟩)]] w fun e w' => e = .returned (.int .i64 (idxL (fun t => !thgOk p t) l 0)) ∧ Below w.heap.size w w' := by
  have HB := Lib.hid (And.intro hB ha)
  have cf := cf76
  clear hB ha
  go_enter Tryd.func112, Tryd.ntmps112
  go_wp2_with fail
  go_loopw [8] (fun i wr => ∃ k : Nat, k ≤ l.length ∧ i = .int .i64 k ∧ Hid (idxL (fun t => !thgOk p t) l 0 = idxL (fun t => !thgOk p t) (l.drop k) k) ∧ Hid (Below w.heap.size w wr)) (fun i _ => l.length - (intOf i).toNat)
  case atStart => exact ⟨0, by omega, rfl, rfl, Below.refl _ _⟩
  case round =>
    obtain ⟨k, hk, rfl, HK, HW⟩ := hrel
    by_cases hlt : k < l.length
    · obtain ⟨b, off, hab, c0, c1, c2, c3, c4, c5, c6, c7, c8⟩ := (HB.out.2.mono HW.out) k hlt
      subst hab
      have hd := idxL_drop (P := fun t => !thgOk p t) hlt
      have hgk : gt l k = l[k] := by simp [gt, hlt]
      rw [← hgk] at hd
      have HC := Lib.hid (bad76 (t := gt l k) (HB.out.1.mono HW.out))
      revert hd HC c0 c1 c2 c3 c4 c5 c6 c7 c8
      clear hgk
      generalize gt l k = x
      intro c0 c1 c2 c3 c4 c5 c6 c7 c8 hd HC
      cases hP : thgOk p x
      · rw [hP] at hd HC
        have HD := Lib.hid hd
        clear hd hP
        go_wp2_with fail
        refine HC.out.mono ?_
        rintro e w' ⟨rfl, hb⟩
        have HB2 := Lib.hid (HW.out.trans (hb.mono HW.out.size))
        clear hb c0 c1 c2 c3 c4 c5 c6 c7 c8
        go_wp2_with fail
        go_ret
        exact ⟨ret_int (by rw [HK.out, HD.out]; rfl), HB2.out⟩
      · rw [hP] at hd HC
        have HD := Lib.hid hd
        clear hd hP
        go_wp2_with fail
        refine HC.out.mono ?_
        rintro e w' ⟨rfl, hb⟩
        have HB2 := Lib.hid (HW.out.trans (hb.mono HW.out.size))
        clear hb c0 c1 c2 c3 c4 c5 c6 c7 c8
        go_wp2_with fail
        go_roundw
        case rel => exact ⟨k + 1, by omega, by go_num, by rw [Hid, HK.out, HD.out]; rfl, HB2.out⟩
        case measure => simp [intOf]; omega
    · have hke : l.drop k = [] := List.drop_eq_nil_of_le (by omega)
      have HK2 : Hid (idxL (fun t => !thgOk p t) l 0 = -1) := by rw [Hid, HK.out, hke]; rfl
      clear hke
      go_wp2_with fail
      go_ret
      exact ⟨ret_int HK2.out.symm, HW.out⟩
theorem has77 {p : Par} {l : List Thg} {a ap : Option Addr} {c cp bk bp : Nat} {w : World} (hB : BadT w bk bp p ap cp) (ha : IsThs w a l) (hl : l.length ≤ 1000000) :
    Calls Tryd.prog 104 #[.slice a l.length c, .func (.func 103) #[] #[.pointer (some ⟨bk, 0, none⟩), .pointer (some ⟨bp, 0, none⟩)]] w fun e w' => e = .returned (.bool (l.any fun t => !thgOk p t)) ∧ Below w.heap.size w w' := by
  have HI := Lib.hid (idxL_any (fun t => !thgOk p t) l 0)
  have HC := Lib.hid (index85 (c := c) hB ha hl)
  clear hB ha
  go_enter Tryd.func104, Tryd.ntmps104
  go_wp2_with fail
  refine HC.out.mono ?_
  rintro e w' ⟨rfl, hb⟩
  have HB2 := Lib.hid hb
  clear hb
  go_wp2_with fail
  go_ret
  exact ⟨ret_bool HI.out, HB2.out⟩
end Go.Proofs.YtbnhngfegnhaiaaDoor
namespace Go.Proofs.YtbnhngfegnhaiaaDoor
open Go.RowKit
set_option linter.unusedVariables false
set_option linter.unusedSimpArgs false
set_option maxRecDepth 100000 in
set_option maxHeartbeats 8000000 in
theorem isPair57 {p : Par} {a : Option Addr} {c : Nat} {w : World} (ha : IsThs w a p.things) (hl : p.things.length ≤ 1000000) : Calls Tryd.prog 76 #[p.v a c] w fun e w' => e = .returned (.bool p.valid) ∧ Below w.heap.size w w' := by
  have HX := Lib.hid (alloc2 w (p.arr a c) #[.func (.func 101) #[] #[]] 40 181)
  have HA := Lib.hid ha
  clear ha
  go_enter Tryd.func76, Tryd.ntmps76
  refine wp_seq_hid ?_
  intro K0 HK0
  go_wp2_with fail
  refine HK0.out _ _ ?_
  clear HK0 K0
  refine wp_seq_hid ?_
  intro K1 HK1
  go_wp2_with fail
  refine HK1.out _ _ ?_
  clear HK1 K1
  revert HX
  generalize (w.alloc (.cells (p.arr a c) 40)).alloc (.cells #[.func (.func 101) #[] #[]] 181) = w1
  intro HX
  have KF : Hid (∀ v, Below w1.heap.size w1 v → v.heap[w.heap.size]? = some (.cells (p.arr a c) 40 (0, 0)) ∧ BadT v (w.heap.size + 1) w.heap.size p a c ∧ IsThs v a p.things ∧ Below w.heap.size w v) := fun v hv => by
    have h1 := (hv.block _ (heap_lt HX.out.1)).trans HX.out.1
    have h2 := (hv.block _ (heap_lt HX.out.2.1)).trans HX.out.2.1
    have h3 := HX.out.2.2.trans (hv.mono HX.out.2.2.size)
    exact ⟨h1, ⟨by rw [cell_of_heap h2]; rfl, h1⟩, HA.out.mono h3, h3⟩
  have HB1 := Lib.hid (Below.refl w1.heap.size w1)
  have HLN := Lib.hid hl
  clear hl
  have hq := (KF.out w1 HB1.out).1
  have k0 : w1.cell? ⟨w.heap.size, 0, none⟩ = some (.int .i64 p.focal.lo) := by rw [cell_of_heap hq]; rfl
  have k1 : w1.cell? ⟨w.heap.size, 1, none⟩ = some (.int .i64 p.focal.hi) := by rw [cell_of_heap hq]; rfl
  have k2 : w1.cell? ⟨w.heap.size, 2, none⟩ = some (.int .i64 p.base.lo) := by rw [cell_of_heap hq]; rfl
  have k3 : w1.cell? ⟨w.heap.size, 3, none⟩ = some (.int .i64 p.base.hi) := by rw [cell_of_heap hq]; rfl
  have k4 : w1.cell? ⟨w.heap.size, 4, none⟩ = some (.int .i64 p.tilt) := by rw [cell_of_heap hq]; rfl
  have k5 : w1.cell? ⟨w.heap.size, 5, none⟩ = some (.int .i64 p.near) := by rw [cell_of_heap hq]; rfl
  have k6 : w1.cell? ⟨w.heap.size, 6, none⟩ = some (.int .i64 p.far) := by rw [cell_of_heap hq]; rfl
  have k7 : w1.cell? ⟨w.heap.size, 7, none⟩ = some (.slice a p.things.length c) := by rw [cell_of_heap hq]; rfl
  clear hq
  go_wp2_with fail
  refine (isSpan75 p.focal _ _ _).mono ?_
  clear k0 k1 k2 k3 k4 k5 k6 k7
  rintro e u0 ⟨rfl, hb⟩
  have HBu0 := Lib.hid (HB1.out.trans (hb.mono HB1.out.size))
  clear hb
  cases h0 : p.focal.ok 1 50000
  case false =>
    have E0 := Lib.hid h0
    clear h0
    go_wp2_with fail
    all_goals first
      | (refine ⟨fun _ _ => trivial, ?_⟩; go_wp2_with fail)
      | skip
    go_ret
    exact ⟨ret_bool (by unfold Par.valid Par.sizeOk; simp [E0.out]), (KF.out _ HBu0.out).2.2.2⟩
  have E0 := Lib.hid h0
  clear h0
  have hq := (KF.out u0 HBu0.out).1
  have k0 : u0.cell? ⟨w.heap.size, 0, none⟩ = some (.int .i64 p.focal.lo) := by rw [cell_of_heap hq]; rfl
  have k1 : u0.cell? ⟨w.heap.size, 1, none⟩ = some (.int .i64 p.focal.hi) := by rw [cell_of_heap hq]; rfl
  have k2 : u0.cell? ⟨w.heap.size, 2, none⟩ = some (.int .i64 p.base.lo) := by rw [cell_of_heap hq]; rfl
  have k3 : u0.cell? ⟨w.heap.size, 3, none⟩ = some (.int .i64 p.base.hi) := by rw [cell_of_heap hq]; rfl
  have k4 : u0.cell? ⟨w.heap.size, 4, none⟩ = some (.int .i64 p.tilt) := by rw [cell_of_heap hq]; rfl
  have k5 : u0.cell? ⟨w.heap.size, 5, none⟩ = some (.int .i64 p.near) := by rw [cell_of_heap hq]; rfl
  have k6 : u0.cell? ⟨w.heap.size, 6, none⟩ = some (.int .i64 p.far) := by rw [cell_of_heap hq]; rfl
  have k7 : u0.cell? ⟨w.heap.size, 7, none⟩ = some (.slice a p.things.length c) := by rw [cell_of_heap hq]; rfl
  clear hq
  go_wp2_with fail
  refine (isSpan75 p.base _ _ _).mono ?_
  clear k0 k1 k2 k3 k4 k5 k6 k7
  rintro e u1 ⟨rfl, hb⟩
  have HBu1 := Lib.hid (HBu0.out.trans (hb.mono HBu0.out.size))
  clear hb
  cases h1 : p.base.ok 1 10000
  case false =>
    have E1 := Lib.hid h1
    clear h1
    go_wp2_with fail
    all_goals first
      | (refine ⟨fun _ _ => trivial, ?_⟩; go_wp2_with fail)
      | skip
    go_ret
    exact ⟨ret_bool (by unfold Par.valid Par.sizeOk; simp [E0.out, E1.out]), (KF.out _ HBu1.out).2.2.2⟩
  have E1 := Lib.hid h1
  clear h1
  have hq := (KF.out u1 HBu1.out).1
  have k0 : u1.cell? ⟨w.heap.size, 0, none⟩ = some (.int .i64 p.focal.lo) := by rw [cell_of_heap hq]; rfl
  have k1 : u1.cell? ⟨w.heap.size, 1, none⟩ = some (.int .i64 p.focal.hi) := by rw [cell_of_heap hq]; rfl
  have k2 : u1.cell? ⟨w.heap.size, 2, none⟩ = some (.int .i64 p.base.lo) := by rw [cell_of_heap hq]; rfl
  have k3 : u1.cell? ⟨w.heap.size, 3, none⟩ = some (.int .i64 p.base.hi) := by rw [cell_of_heap hq]; rfl
  have k4 : u1.cell? ⟨w.heap.size, 4, none⟩ = some (.int .i64 p.tilt) := by rw [cell_of_heap hq]; rfl
  have k5 : u1.cell? ⟨w.heap.size, 5, none⟩ = some (.int .i64 p.near) := by rw [cell_of_heap hq]; rfl
  have k6 : u1.cell? ⟨w.heap.size, 6, none⟩ = some (.int .i64 p.far) := by rw [cell_of_heap hq]; rfl
  have k7 : u1.cell? ⟨w.heap.size, 7, none⟩ = some (.slice a p.things.length c) := by rw [cell_of_heap hq]; rfl
  clear hq
  go_wp2_with fail
  refine (within58 _ _ _ _).mono ?_
  clear k0 k1 k2 k3 k4 k5 k6 k7
  rintro e u2 ⟨rfl, he⟩
  subst he
  cases h2 : inR p.tilt 0 1000
  case false =>
    have E2 := Lib.hid h2
    clear h2
    go_wp2_with fail
    all_goals first
      | (refine ⟨fun _ _ => trivial, ?_⟩; go_wp2_with fail)
      | skip
    go_ret
    exact ⟨ret_bool (by unfold Par.valid Par.sizeOk; simp [E0.out, E1.out, E2.out]), (KF.out _ HBu1.out).2.2.2⟩
  have E2 := Lib.hid h2
  clear h2
  have hq := (KF.out u1 HBu1.out).1
  have k0 : u1.cell? ⟨w.heap.size, 0, none⟩ = some (.int .i64 p.focal.lo) := by rw [cell_of_heap hq]; rfl
  have k1 : u1.cell? ⟨w.heap.size, 1, none⟩ = some (.int .i64 p.focal.hi) := by rw [cell_of_heap hq]; rfl
  have k2 : u1.cell? ⟨w.heap.size, 2, none⟩ = some (.int .i64 p.base.lo) := by rw [cell_of_heap hq]; rfl
  have k3 : u1.cell? ⟨w.heap.size, 3, none⟩ = some (.int .i64 p.base.hi) := by rw [cell_of_heap hq]; rfl
  have k4 : u1.cell? ⟨w.heap.size, 4, none⟩ = some (.int .i64 p.tilt) := by rw [cell_of_heap hq]; rfl
  have k5 : u1.cell? ⟨w.heap.size, 5, none⟩ = some (.int .i64 p.near) := by rw [cell_of_heap hq]; rfl
  have k6 : u1.cell? ⟨w.heap.size, 6, none⟩ = some (.int .i64 p.far) := by rw [cell_of_heap hq]; rfl
  have k7 : u1.cell? ⟨w.heap.size, 7, none⟩ = some (.slice a p.things.length c) := by rw [cell_of_heap hq]; rfl
  clear hq
  go_wp2_with fail
  refine (within58 _ _ _ _).mono ?_
  clear k0 k1 k2 k3 k4 k5 k6 k7
  rintro e u3 ⟨rfl, he⟩
  subst he
  cases h3 : inR p.near 2000 1073741824
  case false =>
    have E3 := Lib.hid h3
    clear h3
    go_wp2_with fail
    all_goals first
      | (refine ⟨fun _ _ => trivial, ?_⟩; go_wp2_with fail)
      | skip
    go_ret
    exact ⟨ret_bool (by unfold Par.valid Par.sizeOk; simp [E0.out, E1.out, E2.out, E3.out]), (KF.out _ HBu1.out).2.2.2⟩
  have E3 := Lib.hid h3
  clear h3
  have hq := (KF.out u1 HBu1.out).1
  have k0 : u1.cell? ⟨w.heap.size, 0, none⟩ = some (.int .i64 p.focal.lo) := by rw [cell_of_heap hq]; rfl
  have k1 : u1.cell? ⟨w.heap.size, 1, none⟩ = some (.int .i64 p.focal.hi) := by rw [cell_of_heap hq]; rfl
  have k2 : u1.cell? ⟨w.heap.size, 2, none⟩ = some (.int .i64 p.base.lo) := by rw [cell_of_heap hq]; rfl
  have k3 : u1.cell? ⟨w.heap.size, 3, none⟩ = some (.int .i64 p.base.hi) := by rw [cell_of_heap hq]; rfl
  have k4 : u1.cell? ⟨w.heap.size, 4, none⟩ = some (.int .i64 p.tilt) := by rw [cell_of_heap hq]; rfl
  have k5 : u1.cell? ⟨w.heap.size, 5, none⟩ = some (.int .i64 p.near) := by rw [cell_of_heap hq]; rfl
  have k6 : u1.cell? ⟨w.heap.size, 6, none⟩ = some (.int .i64 p.far) := by rw [cell_of_heap hq]; rfl
  have k7 : u1.cell? ⟨w.heap.size, 7, none⟩ = some (.slice a p.things.length c) := by rw [cell_of_heap hq]; rfl
  clear hq
  go_wp2_with fail
  refine (within58 _ _ _ _).mono ?_
  clear k0 k1 k2 k3 k4 k5 k6 k7
  rintro e u4 ⟨rfl, he⟩
  subst he
  cases h4 : inR p.far p.near 1073741824
  case false =>
    have E4 := Lib.hid h4
    clear h4
    go_wp2_with fail
    all_goals first
      | (refine ⟨fun _ _ => trivial, ?_⟩; go_wp2_with fail)
      | skip
    go_ret
    exact ⟨ret_bool (by unfold Par.valid Par.sizeOk; simp [E0.out, E1.out, E2.out, E3.out, E4.out]), (KF.out _ HBu1.out).2.2.2⟩
  have E4 := Lib.hid h4
  clear h4
  have hq := (KF.out u1 HBu1.out).1
  have k0 : u1.cell? ⟨w.heap.size, 0, none⟩ = some (.int .i64 p.focal.lo) := by rw [cell_of_heap hq]; rfl
  have k1 : u1.cell? ⟨w.heap.size, 1, none⟩ = some (.int .i64 p.focal.hi) := by rw [cell_of_heap hq]; rfl
  have k2 : u1.cell? ⟨w.heap.size, 2, none⟩ = some (.int .i64 p.base.lo) := by rw [cell_of_heap hq]; rfl
  have k3 : u1.cell? ⟨w.heap.size, 3, none⟩ = some (.int .i64 p.base.hi) := by rw [cell_of_heap hq]; rfl
  have k4 : u1.cell? ⟨w.heap.size, 4, none⟩ = some (.int .i64 p.tilt) := by rw [cell_of_heap hq]; rfl
  have k5 : u1.cell? ⟨w.heap.size, 5, none⟩ = some (.int .i64 p.near) := by rw [cell_of_heap hq]; rfl
  have k6 : u1.cell? ⟨w.heap.size, 6, none⟩ = some (.int .i64 p.far) := by rw [cell_of_heap hq]; rfl
  have k7 : u1.cell? ⟨w.heap.size, 7, none⟩ = some (.slice a p.things.length c) := by rw [cell_of_heap hq]; rfl
  clear hq
  by_cases h5 : p.things.length ≤ 12
  case neg =>
    have E5 := Lib.hid (decide_eq_false h5)
    have hd : decide ((p.things.length : Int) ≤ 12) = false := by simp; omega
    clear h5
    go_wp2_with fail
    all_goals first
      | (refine ⟨fun _ _ => trivial, ?_⟩; go_wp2_with fail)
      | skip
    go_ret
    exact ⟨ret_bool (by unfold Par.valid Par.sizeOk; simp [E0.out, E1.out, E2.out, E3.out, E4.out, E5.out]), (KF.out _ HBu1.out).2.2.2⟩
  have E5 := Lib.hid (decide_eq_true h5)
  have hd : decide ((p.things.length : Int) ≤ 12) = true := by simp; omega
  clear h5
  have hq := (KF.out u1 HBu1.out).1
  have k0 : u1.cell? ⟨w.heap.size, 0, none⟩ = some (.int .i64 p.focal.lo) := by rw [cell_of_heap hq]; rfl
  have k1 : u1.cell? ⟨w.heap.size, 1, none⟩ = some (.int .i64 p.focal.hi) := by rw [cell_of_heap hq]; rfl
  have k2 : u1.cell? ⟨w.heap.size, 2, none⟩ = some (.int .i64 p.base.lo) := by rw [cell_of_heap hq]; rfl
  have k3 : u1.cell? ⟨w.heap.size, 3, none⟩ = some (.int .i64 p.base.hi) := by rw [cell_of_heap hq]; rfl
  have k4 : u1.cell? ⟨w.heap.size, 4, none⟩ = some (.int .i64 p.tilt) := by rw [cell_of_heap hq]; rfl
  have k5 : u1.cell? ⟨w.heap.size, 5, none⟩ = some (.int .i64 p.near) := by rw [cell_of_heap hq]; rfl
  have k6 : u1.cell? ⟨w.heap.size, 6, none⟩ = some (.int .i64 p.far) := by rw [cell_of_heap hq]; rfl
  have k7 : u1.cell? ⟨w.heap.size, 7, none⟩ = some (.slice a p.things.length c) := by rw [cell_of_heap hq]; rfl
  clear hq
  go_wp2_with fail
  refine (has77 (KF.out u1 HBu1.out).2.1 (KF.out u1 HBu1.out).2.2.1 HLN.out).mono ?_
  clear k0 k1 k2 k3 k4 k5 k6 k7
  rintro e u6 ⟨rfl, hb⟩
  have HBu6 := Lib.hid (HBu1.out.trans (hb.mono HBu1.out.size))
  clear hb
  cases h6 : p.things.any fun t => !thgOk p t
  case false =>
    have E6 := Lib.hid h6
    clear h6
    go_wp2_with fail
    go_ret
    refine ⟨ret_bool ?_, (KF.out _ HBu6.out).2.2.2⟩
    have e := E6.out
    rw [show (p.things.any fun t => !thgOk p t) = !(p.things.all (thgOk p)) from by rw [List.all_eq_not_any_not, Bool.not_not]] at e
    unfold Par.valid Par.sizeOk
    rw [E0.out, E1.out, E2.out, E3.out, E4.out, E5.out]
    simp at e ⊢
    first | exact e | exact e.symm | simpa using e
  case true =>
    have E6 := Lib.hid h6
    clear h6
    go_wp2_with fail
    go_ret
    refine ⟨ret_bool ?_, (KF.out _ HBu6.out).2.2.2⟩
    have e := E6.out
    rw [show (p.things.any fun t => !thgOk p t) = !(p.things.all (thgOk p)) from by rw [List.all_eq_not_any_not, Bool.not_not]] at e
    unfold Par.valid Par.sizeOk
    rw [E0.out, E1.out, E2.out, E3.out, E4.out, E5.out]
    simp at e ⊢
    first | exact e | exact e.symm | simpa using e
end Go.Proofs.YtbnhngfegnhaiaaDoor
