/- The document's views; what is far too much. -/
import Derived.Test.YtphefhpmbahagaaT45
namespace Go.Proofs.Ytphefhpmbahagaa
open Go.RowKit
set_option linter.unusedVariables false
set_option linter.unusedSimpArgs false

def smpT : Tr := ⟨360, [⟨30, 40⟩, ⟨20, 20⟩, ⟨60, 70⟩], [[⟨0, 0⟩, ⟨15, 20⟩, ⟨45, 50⟩], [⟨15, 20⟩, ⟨0, 0⟩, ⟨30, 35⟩], [⟨45, 50⟩, ⟨30, 35⟩, ⟨0, 0⟩]], [⟨10, 15⟩, ⟨20, 20⟩, ⟨5, 10⟩], [⟨420, 480⟩, ⟨380, 600⟩, ⟨500, 540⟩]⟩
theorem smp_small : smpT.Small := ⟨by decide, by decide, by decide, by decide, by decide⟩
theorem spns_of {w : World} {g : Nat} {a b c : Spn} (h : w.heap[g]? = some (.cells #[.int .i64 a.lo, .int .i64 a.hi, .int .i64 b.lo, .int .i64 b.hi, .int .i64 c.lo, .int .i64 c.hi] 33 (0, 0))) : IsSpns w (some ⟨g, 0, none⟩) [a, b, c] := fun i hi => by
  have hi : i < 3 := hi
  have h3 : i = 0 ∨ i = 1 ∨ i = 2 := by omega
  rcases h3 with rfl | rfl | rfl <;> exact ⟨g, 0, rfl, by rw [cell_of_heap h]; rfl, by rw [cell_of_heap h]; rfl⟩
set_option maxRecDepth 100000 in
set_option maxHeartbeats 4000000 in
theorem sample32 (w : World) : Calls Try.prog 32 #[] w fun e w' => ∃ A : TrA, e = .returned (smpT.v A) ∧ IsTr w' smpT A ∧ Below w.heap.size w w' := by
  have q0 := World.alloc_heap_new w (.cells #[.int .i64 0, .slice none 0 0, .slice none 0 0, .slice none 0 0, .slice none 0 0] 25)
  have hb : Below w.heap.size w (w.alloc (.cells #[.int .i64 0, .slice none 0 0, .slice none 0 0, .slice none 0 0, .slice none 0 0] 25)) := (Below.refl _ _).alloc (Nat.le_refl _) _
  go_enter Try.func32, Try.ntmps32
  go_upto_region 1 with fail
  revert q0 hb
  generalize w.alloc (.cells #[.int .i64 0, .slice none 0 0, .slice none 0 0, .slice none 0 0, .slice none 0 0] 25) = w1
  intro q0 hb
  have HB := Lib.hid (And.intro q0 hb)
  clear q0 hb
  go_wp2_with fail
  refine (span41 15 20 w1).mono ?_
  rintro e w2 ⟨rfl, h2⟩
  have H2 := Lib.hid h2
  clear h2
  go_wp2_with fail
  refine (span41 45 50 w2).mono ?_
  rintro e w3 ⟨rfl, h3⟩
  have H3 := Lib.hid (H2.out.trans (h3.mono H2.out.size))
  clear h3
  go_wp2_with fail
  refine (span41 30 35 w3).mono ?_
  rintro e w4 ⟨rfl, h4⟩
  have H4 := Lib.hid (H3.out.trans (h4.mono H3.out.size))
  clear h4
  go_wp2_with fail
  refine (span41 0 0 w4).mono ?_
  rintro e w5 ⟨rfl, h5⟩
  have h5' := H4.out.trans (h5.mono H4.out.size)
  have H5 := Lib.hid (And.intro ((h5'.block _ (heap_lt HB.out.1)).trans HB.out.1) (HB.out.2.trans (h5'.mono HB.out.2.size)))
  clear h5 h5' H2 H3 H4 HB
  go_wp2_with fail
  obtain ⟨q1, q2, hzA, hbA⟩ := heap2 w5 (.cells #[.int .i64 15, .int .i64 20] 33) (.cells #[.int .i64 45, .int .i64 50] 33)
  revert q1 q2 hzA hbA
  generalize (w5.alloc (.cells #[.int .i64 15, .int .i64 20] 33)).alloc (.cells #[.int .i64 45, .int .i64 50] 33) = wa
  intro q1 q2 hzA hbA
  obtain ⟨q3, q4, hzB, hbB⟩ := heap2 wa (.cells #[.int .i64 30, .int .i64 35] 33) (.cells #[.int .i64 0, .int .i64 0] 33)
  rw [hzA] at q3 q4 hzB
  revert q3 q4 hzB hbB
  generalize (wa.alloc (.cells #[.int .i64 30, .int .i64 35] 33)).alloc (.cells #[.int .i64 0, .int .i64 0] 33) = W
  intro q3 q4 hzB hbB
  have hq1 := (hbB.block _ (heap_lt q1)).trans q1
  have hq2 := (hbB.block _ (heap_lt q2)).trans q2
  have h0w := heap_lt H5.out.1
  have hBW : Below w5.heap.size w5 W := hbA.trans (hbB.mono (by omega))
  have hq0 := (hBW.block _ h0w).trans H5.out.1
  have HW := Lib.hid (H5.out.2.trans (hBW.mono H5.out.2.size))
  have kk : ∀ {b : Nat} {x y : Int}, W.heap[b]? = some (.cells #[.int .i64 x, .int .i64 y] 33 (0, 0)) → Hid (∀ v, Below W.heap.size W v → v.cell? ⟨b, 0, none⟩ = some (.int .i64 x) ∧ v.cell? ⟨b, 1, none⟩ = some (.int .i64 y)) := fun h v hb => by
    have e := (hb.block _ (heap_lt h)).trans h
    exact ⟨by rw [cell_of_heap e]; rfl, by rw [cell_of_heap e]; rfl⟩
  have HK := Lib.hid (And.intro (kk hq1) (And.intro (kk hq2) (And.intro (kk q3) (kk q4))))
  have hlt : w.heap.size < W.heap.size := by omega
  have HQ0 := Lib.hid hq0
  clear kk q1 q2 q3 q4 hq1 hq2 hbA hbB hBW hq0 hzA hzB h0w H5
  refine wpIn_wide.1 (smp2 hlt ⟨_, HQ0.out, rfl⟩ HK.out.1 HK.out.2.1 HK.out.2.2.1 HK.out.2.2.2 ?_)
  intro x9 x10 x11 x12 x13 x14 x15 x16 x17 x18 x19 x20 x21 x22 x23 x24 x25 x26 x27 x28 x29 x30 x31 x32 x33 x34 w' hb ⟨g12, g29, g33, g25, g16, g20, g24, h0, h12, h29, h33, h25, h16, h20, h24⟩
  have HF := Lib.hid (And.intro (HW.out.trans hb) (And.intro h0 (And.intro h12 (And.intro h29 (And.intro h33 (And.intro h25 (And.intro h16 (And.intro h20 h24))))))))
  clear hb h0 h12 h29 h33 h25 h16 h20 h24
  go_wp2_with fail
  obtain ⟨hb, h0, h12, h29, h33, h25, h16, h20, h24⟩ := HF.out
  refine bodyPost_ret (res_c25 rfl _ rfl ((cell_of_heap h0).trans rfl) ((cell_of_heap h0).trans rfl) ((cell_of_heap h0).trans rfl) ((cell_of_heap h0).trans rfl) ((cell_of_heap h0).trans rfl)) rfl ?_
  refine ⟨⟨some ⟨g12, 0, none⟩, 3, some ⟨g25, 0, none⟩, 3, some ⟨g29, 0, none⟩, 3, some ⟨g33, 0, none⟩, 3⟩, rfl, ⟨spns_of (a := ⟨30, 40⟩) (b := ⟨20, 20⟩) (c := ⟨60, 70⟩) h12, ?_, spns_of (a := ⟨10, 15⟩) (b := ⟨20, 20⟩) (c := ⟨5, 10⟩) h29, spns_of (a := ⟨420, 480⟩) (b := ⟨380, 600⟩) (c := ⟨500, 540⟩) h33⟩, hb⟩
  intro i hi
  have hi : i < 3 := hi
  have h3 : i = 0 ∨ i = 1 ∨ i = 2 := by omega
  rcases h3 with rfl | rfl | rfl
  · exact ⟨g25, 0, rfl, _, _, by rw [cell_of_heap h25]; rfl, spns_of (a := ⟨0, 0⟩) (b := ⟨15, 20⟩) (c := ⟨45, 50⟩) h16⟩
  · exact ⟨g25, 0, rfl, _, _, by rw [cell_of_heap h25]; rfl, spns_of (a := ⟨15, 20⟩) (b := ⟨0, 0⟩) (c := ⟨30, 35⟩) h20⟩
  · exact ⟨g25, 0, rfl, _, _, by rw [cell_of_heap h25]; rfl, spns_of (a := ⟨45, 50⟩) (b := ⟨30, 35⟩) (c := ⟨0, 0⟩) h24⟩
end Go.Proofs.Ytphefhpmbahagaa
