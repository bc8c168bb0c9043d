/- Walked. -/
import Derived.Test.YtphefhpmbahagaaT13
namespace Go.Proofs.Ytphefhpmbahagaa
open Go.RowKit
set_option linter.unusedVariables false
set_option linter.unusedSimpArgs false

theorem res_tc {fn : Func} {q p : Tmp} (h : fn.results = #[.tmp q, .cell p 29]) (tmps : Array Value) {w : World} {a : Nat} {x : Value} (hp : tmps.getD p undef = .pointer (some ⟨a, 0, none⟩)) (hx : w.cell? ⟨a, 0, none⟩ = some x) :
    (results fn tmps).run Try.prog w = .ok (.tuple #[tmps.getD q undef, x]) w := by
  have hp' : tmps[p]?.getD undef = .pointer (some ⟨a, 0, none⟩) := by simpa using hp
  simp [results, h, hp', hx, go_sem]
theorem order_view {t : Tr} {o : List Int} (h : t.order o = true) : ∀ x ∈ o, t.view x = true := by
  unfold Tr.order at h
  simp only [Bool.and_eq_true, List.all_eq_true] at h
  exact h.1
theorem openE_zero {t : Tr} {ok : Bool} (h : openE t ok = 0) : t.valid = true ∧ ok = true := by
  unfold openE at h
  cases hv : t.valid <;> cases ok <;> simp_all
set_option maxRecDepth 100000 in
set_option maxHeartbeats 4000000 in
theorem walked14 {t : Tr} {A : TrA} {w : World} (ht : IsTr w t A) (hs : t.Small) {o : List Int} (hol : o.length ≤ 16) {a : Option Addr} {cap : Nat} (ha : IsInts w a o) :
    Calls Try.prog 14 #[t.v A, .slice a o.length cap] w fun e w' => e = .returned (.tuple #[.int .i64 (walkedE t o).1, .int .i64 (walkedE t o).2]) ∧ Below w.heap.size w w' := by
  have hmf : ∀ (fn : Fn) (first cap : Array Value) (w : World), (Instr.makeFunc fn first cap).run Try.prog w = .ok (.func fn first cap) w := fun _ _ _ _ => rfl
  have HCF := Lib.hid cf44
  refine calls_of_wp_x Try.func14 rfl ?_
  simp only [Try.ntmps14, List.size_toArray, List.length_cons, List.length_nil, Nat.reduceAdd, Nat.reduceSub, Array.replicate_succ, Array.replicate_zero, List.push_toArray, List.append_toArray, List.nil_append, List.cons_append]
  go_wp2_with fail
  obtain ⟨W1, hW1⟩ : ∃ W1 : World, W1 = ((w.alloc (.cells (t.cells A) 25)).alloc (.cells #[.slice a o.length cap] 26)).alloc (.cells #[.int .i64 0] 29) := ⟨_, rfl⟩
  obtain ⟨q0, q1, hz, hb⟩ := heap2 w (.cells (t.cells A) 25) (.cells #[.slice a o.length cap] 26)
  have hbb : Below ((w.alloc (.cells (t.cells A) 25)).alloc (.cells #[.slice a o.length cap] 26)).heap.size ((w.alloc (.cells (t.cells A) 25)).alloc (.cells #[.slice a o.length cap] 26)) W1 := by rw [hW1]; exact (Below.refl _ _).alloc (Nat.le_refl _) _
  have hb1 : Below w.heap.size w W1 := hb.trans (hbb.mono (by omega))
  have hz1 : W1.heap.size = w.heap.size + 3 := by rw [hW1]; simp
  have q1 := (hbb.block _ (heap_lt q1)).trans q1
  have q2 : W1.heap[w.heap.size + 2]? = some (.cells #[.int .i64 0] 29 (0, 0)) := by
    rw [hW1, ← hz]; exact World.alloc_heap_new _ _
  have hob : W1.cell? ⟨w.heap.size + 1, 0, none⟩ = some (.slice a o.length cap) := by rw [cell_of_heap q1]; rfl
  have ht1 := ht.mono hb1
  have ha1 := ha.mono hb1
  rw [← hW1]
  clear hW1 hb hbb hz q0
  by_cases hE : openE t (t.order o) = 0
  · obtain ⟨hv, hor⟩ := openE_zero hE
    have hF := fit_of_valid hv
    refine (open_yes (g := 47) (cp := #[.pointer (some ⟨w.heap.size + 1, 0, none⟩)]) ht1 hs hv cf47 (fun tb W hP hbW => ?_)).mono ?_
    · have := order47 hP hF.n hol (ha1.mono hbW) (cell_stays hbW hob)
      rw [hor] at this
      exact this
    rintro e w2 ⟨tb, rfl, htb, hP, hb2⟩
    have hB2 := hb1.trans (hb2.mono (by omega))
    have hz2 := hb2.size
    have q1' := (hb2.block _ (heap_lt q1)).trans q1
    have q2' := (hb2.block _ (heap_lt q2)).trans q2
    have c1 : w2.cell? ⟨w.heap.size + 1, 0, none⟩ = some (.slice a o.length cap) := by rw [cell_of_heap q1']; rfl
    have HI := Lib.hid (is49_74 (cap := cap) hP hF hol (order_view hor) (ha1.mono hb2))
    have H2 := Lib.hid (And.intro hB2 (And.intro (And.intro q1' q2') (And.intro hP (And.intro hF (And.intro (order_view hor) (And.intro (ha1.mono hb2) (And.intro hE (show w.heap.size + 3 ≤ w2.heap.size by omega))))))))
    clear hb1 hz1 q1 q2 hob ht1 ha1 ht ha hs hv hor hF htb hP hb2 hB2 hz2 q1' q2' hE
    go_wp2_with fail
    refine HI.out.mono ?_
    rintro e w3 ⟨rfl, hb3⟩
    have q3 := (hb3.block _ (heap_lt H2.out.2.1.2)).trans H2.out.2.1.2
    have e3 : w3.cell? ⟨w.heap.size + 2, 0, none⟩ = some (.int .i64 0) := by rw [cell_of_heap q3]; rfl
    have f3 : w3.frozen? ⟨w.heap.size + 2, 0, none⟩ = false := frozen_of_heap q3
    have HB3 := Lib.hid (And.intro (H2.out.1.trans (hb3.mono H2.out.1.size)) hb3)
    cases h1 : t.is true o
    · have c3 := cell_stays hb3 c1
      have HI3 := Lib.hid (is49_75 (cap := cap) (H2.out.2.2.1.mono hb3) H2.out.2.2.2.1 hol H2.out.2.2.2.2.1 (H2.out.2.2.2.2.2.1.mono hb3))
      have HW : Hid (walkedE t o = (if t.is false o then 1 else 0, 0)) := by unfold Hid walkedE; rw [if_pos H2.out.2.2.2.2.2.2.1, h1]; rfl
      clear hb3 h1 c1 e3 f3 HI
      go_wp2_with fail
      refine HI3.out.mono ?_
      rintro e w4 ⟨rfl, hb4⟩
      have q4 := (hb4.block _ (heap_lt q3)).trans q3
      have e4 : w4.cell? ⟨w.heap.size + 2, 0, none⟩ = some (.int .i64 0) := by rw [cell_of_heap q4]; rfl
      have f4 : w4.frozen? ⟨w.heap.size + 2, 0, none⟩ = false := frozen_of_heap q4
      have HB4 := Lib.hid (HB3.out.1.trans (hb4.mono HB3.out.1.size))
      have hcell := World.cell?_setCell_same w4 ⟨w.heap.size + 2, 0, none⟩ (.int .i64 0) e4
      have HCELL := Lib.hid hcell
      clear hb4 c3 hcell q3 q4
      cases h2 : t.is false o
      · go_wp2_with fail
        refine ⟨[], _, rfl, leaves_ok (recov44_ok _ _) HCF.out (res_tc rfl _ rfl HCELL.out) ⟨?_, HB4.out.setCell (by show w.heap.size ≤ w.heap.size + 2; omega) _⟩⟩
        rw [HW.out, h2]; rfl
      · go_wp2_with fail
        refine ⟨[], _, rfl, leaves_ok (recov44_ok _ _) HCF.out (res_tc rfl _ rfl HCELL.out) ⟨?_, HB4.out.setCell (by show w.heap.size ≤ w.heap.size + 2; omega) _⟩⟩
        rw [HW.out, h2]; rfl
    · have HW : Hid (walkedE t o = (2, 0)) := by unfold Hid walkedE; rw [if_pos H2.out.2.2.2.2.2.2.1, h1]; rfl
      have hcell := World.cell?_setCell_same w3 ⟨w.heap.size + 2, 0, none⟩ (.int .i64 0) e3
      have HCELL := Lib.hid hcell
      clear hb3 h1 c1 hcell q3
      go_wp2_with fail
      refine ⟨[], _, rfl, leaves_ok (recov44_ok _ _) HCF.out (res_tc rfl _ rfl HCELL.out) ⟨?_, HB3.out.1.setCell (by show w.heap.size ≤ w.heap.size + 2; omega) _⟩⟩
      rw [HW.out]; rfl
  · have hW : walkedE t o = (0, openE t (t.order o)) := by unfold walkedE; rw [if_neg hE]
    refine (open_no (g := 47) (cp := #[.pointer (some ⟨w.heap.size + 1, 0, none⟩)]) ht1 hs hE cf47 (fun hv tb W hP hbW => order47 hP (fit_of_valid hv).n hol (ha1.mono hbW) (cell_stays hbW hob))).mono ?_
    rintro e w2 ⟨rfl, hb2⟩
    have he2 := (hb2.block (w.heap.size + 2) (by omega)).trans q2
    have hc2 : w2.cell? ⟨w.heap.size + 2, 0, none⟩ = some (.int .i64 0) := by rw [cell_of_heap he2]; rfl
    have hb3 : Below w.heap.size w ((w2.alloc (.cells #[.int .i64 (openE t (t.order o))] 106)).setCell ⟨w.heap.size + 2, 0, none⟩ (.int .i64 (openE t (t.order o)))) := by
      have h2 := hb1.trans (hb2.mono (by omega))
      exact (h2.alloc h2.size _).setCell (by simp) _
    have hcell := World.cell?_setCell_same (w2.alloc (.cells #[.int .i64 (openE t (t.order o))] 106)) ⟨w.heap.size + 2, 0, none⟩ (.int .i64 (openE t (t.order o))) (cell_stays ((Below.refl _ w2).alloc (Nat.le_refl _) _) hc2)
    refine ⟨[], _, rfl, leaves_no (recov44_no (openE t (t.order o)) hc2 (frozen_of_heap he2)) rfl HCF.out (res_tc rfl _ rfl hcell) ⟨?_, hb3⟩⟩
    rw [hW]
    rfl
end Go.Proofs.Ytphefhpmbahagaa
