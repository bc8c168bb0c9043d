/- The law LendMore answers true. -/
import Derived.Test.YtlhobddaojdnoaaR6
import Derived.Test.YtlhobddaojdnoaaR3
import Derived.Test.YtlhobddaojdnoaaL5
import Derived.Test.YtlhobddaojdnoaaW25
import Derived.Deep.RegionHeld3
import Derived.Deep.DeepCutAuto
import Derived.Outline
import Derived.IntWalk
namespace Go.Proofs.Ytlhobddaojdnoaa
open Go.RowKit

theorem givenM {w : World} {c : Cab} {ah : Option Addr} {ch : Nat} {al : Option Addr} {cl : Nat} (h : Given w c ah ch al cl) (n : Int) : Given w (withWrong c n) ah ch al cl := ⟨h.hi, h.li, h.hh, h.hl, h.cl⟩
theorem loans_setCell {w : World} {g b o : Nat} {l : List Ln} {v : Value} (h : IsLoans w (some ⟨g, 0, none⟩) l) (hn : g ≠ b) : IsLoans (w.setCell ⟨b, o, none⟩ v) (some ⟨g, 0, none⟩) l := by
  intro i hi
  obtain ⟨b', off, he, h0, h1, h2, h3⟩ := h i hi
  cases he
  have hc : ∀ k x, w.cell? ⟨g, k, none⟩ = some x → (w.setCell ⟨b, o, none⟩ v).cell? ⟨g, k, none⟩ = some x := fun k x hx => by
    rw [World.cell?_setCell_other _ _ _ _ (fun h => hn (by cases h; rfl))]; exact hx
  exact ⟨g, 0, rfl, hc _ _ h0, hc _ _ h1, hc _ _ h2, hc _ _ h3⟩


set_option maxRecDepth 100000 in
set_option maxHeartbeats 8000000 in
theorem lawMore_t {c : Cab} {w : World} {ah : Option Addr} {ch : Nat} {al : Option Addr} {cl : Nat} {p q : Int} (hg : Given w c ah ch al cl) (hv : c.valid = true) (hl : c.loans.length < 12) (hp : 0 ≤ p ∧ p ≤ 255) (hq : 0 ≤ q ∧ q ≤ 255) :
    Calls Try.prog 10 #[c.v ah ch al cl, .int .u8 p, .int .u8 q] w fun e w' => e = .returned (.bool true) ∧ Below w.heap.size w w' := by
  obtain ⟨hp0, hp1⟩ := hp
  obtain ⟨hq0, hq1⟩ := hq
  have hgr : Hid ((decide (16 < c.homes.length) || decide (30 < c.loans.length)) = false) := by have := hg.hh; have := hg.hl; unfold Hid; simp; omega
  have HV := Lib.hid hv
  obtain ⟨vs1, vs2⟩ := valid_slots hv
  obtain ⟨vw1, vw2⟩ := valid_wrong hv
  have vh := valid_homes hv
  clear hv
  go_enter Try.func10, Try.ntmps10
  go_wp2_with fail
  refine (great_any c _).mono ?_
  rintro e w1 ⟨rfl, hb1⟩
  rw [hgr.out]
  have hb0 : Below w.heap.size w (w.alloc (.cells (c.cells ah ch al cl) 25)) := (Below.refl _ w).alloc (Nat.le_refl _) _
  have hB1 := bst hb0 hb1
  have hg1 := hg.mono hB1
  obtain ⟨d0, d1, d2, d3⟩ : w1.cell? ⟨w.heap.size, 0, none⟩ = some (.int .i64 c.slots) ∧ w1.cell? ⟨w.heap.size, 1, none⟩ = some (.slice ah c.homes.length ch) ∧
      w1.cell? ⟨w.heap.size, 2, none⟩ = some (.int .i64 c.wrong) ∧ w1.cell? ⟨w.heap.size, 3, none⟩ = some (.slice al c.loans.length cl) := by
    have h := fun o => (hb1.cell (p := ⟨w.heap.size, o, none⟩) (by simp)).trans (cell_of_heap (World.alloc_heap_new w (.cells (c.cells ah ch al cl) 25)))
    exact ⟨h 0, h 1, h 2, h 3⟩
  go_wp2_with fail
  refine (refCab_any hg1.hi hg1.li hg1.hh hg1.hl).mono ?_
  rintro e w2 ⟨rfl, hb2⟩
  rw [HV.out]
  have hB2 := bst hB1 hb2
  have hg2 := hg1.mono hb2
  have e0 := cell_stays hb2 d0
  have e1 := cell_stays hb2 d1
  have e2 := cell_stays hb2 d2
  have e3 := cell_stays hb2 d3
  clear d0 d1 d2 d3 hgr hg hg1
  have hlt2 := lt_of_cell e0
  go_upto_region 5 with fail
  obtain ⟨nl, hnl⟩ : ∃ nl : Int, nl = (if q % 2 < c.wrong - 1 then c.wrong - 1 - q % 2 else 0) := ⟨_, rfl⟩
  rw [← hnl]
  have hnl0 : 0 ≤ nl ∧ nl ≤ c.wrong := by rw [hnl]; split <;> omega
  clear hnl
  obtain ⟨hn0, hn1⟩ := hnl0
  have hbn : Below w2.heap.size w2 (w2.alloc (.cells #[.int .i64 c.slots, .slice ah c.homes.length ch, .int .i64 nl, .slice al c.loans.length cl] 25)) := (Below.refl _ w2).alloc (Nat.le_refl _) _
  have hx := World.alloc_heap_new w2 (.cells #[.int .i64 c.slots, .slice ah c.homes.length ch, .int .i64 nl, .slice al c.loans.length cl] 25)
  have d0 := cell_stays hbn e0
  have d1 := cell_stays hbn e1
  have d2 := cell_stays hbn e2
  have d3 := cell_stays hbn e3
  have hB3 := bst hB2 hbn
  have hg3 := hg2.mono hbn
  have hz3 : (w2.alloc (.cells #[.int .i64 c.slots, .slice ah c.homes.length ch, .int .i64 nl, .slice al c.loans.length cl] 25)).heap.size = w2.heap.size + 1 := by simp
  clear e0 e1 e2 e3
  revert hbn hx d0 d1 d2 d3 hB3 hg3 hz3
  generalize (w2.alloc (.cells #[.int .i64 c.slots, .slice ah c.homes.length ch, .int .i64 nl, .slice al c.loans.length cl] 25)) = w3
  intro hbn hx d0 d1 d2 d3 hB3 hg3 hz3
  have x0 : w3.cell? ⟨w2.heap.size, 0, none⟩ = some (.int .i64 c.slots) := by rw [cell_of_heap hx]; rfl
  have x1 : w3.cell? ⟨w2.heap.size, 1, none⟩ = some (.slice ah c.homes.length ch) := by rw [cell_of_heap hx]; rfl
  have x2 : w3.cell? ⟨w2.heap.size, 2, none⟩ = some (.int .i64 nl) := by rw [cell_of_heap hx]; rfl
  have x3 : w3.cell? ⟨w2.heap.size, 3, none⟩ = some (.slice al c.loans.length cl) := by rw [cell_of_heap hx]; rfl
  have HZ3 := Lib.hid hz3
  clear hx hbn hz3
  have hl30 : c.loans.length ≤ 30 := by omega
  have y1 : IntKind.i64.wrap ((c.homes.length : Int) + 1) = (c.homes.length : Int) + 1 := IntWalk.i64_in _ (by omega)
  have y2 : IntKind.i64.wrap p = p := IntWalk.i64_in _ (by omega)
  have y3 : IntKind.i64.wrap q = q := IntWalk.i64_in _ (by omega)
  have y4 : p.tmod c.slots = p % c.slots := Int.tmod_eq_emod_of_nonneg (by omega)
  have y5 : q.tmod ((c.homes.length : Int) + 1) = q % ((c.homes.length : Int) + 1) := Int.tmod_eq_emod_of_nonneg (by omega)
  have m5 := Int.emod_nonneg q (show (c.homes.length : Int) + 1 ≠ 0 by omega)
  have m6 := Int.emod_lt_of_pos q (show 0 < (c.homes.length : Int) + 1 by omega)
  have m7 := Int.emod_nonneg p (show c.slots ≠ 0 by omega)
  have m8 := Int.emod_lt_of_pos p (show 0 < c.slots by omega)
  have y6 : IntKind.i64.wrap (q % ((c.homes.length : Int) + 1) - 1) = q % ((c.homes.length : Int) + 1) - 1 := IntWalk.i64_in _ (by omega)
  have y7 : (c.slots == 0) = false := by simp; omega
  have y8 : ((c.homes.length : Int) + 1 == 0) = false := by simp; omega
  have y9 : ¬ c.slots = 0 := by omega
  have y10 : ¬ (c.homes.length : Int) + 1 = 0 := by omega
  have hlt3 := lt_of_cell d0
  have hlt4 : w.heap.size < w3.heap.size + 1 := by omega
  have hne1 : w3.heap.size ≠ w.heap.size := by omega
  have hne2 : w.heap.size ≠ w3.heap.size := by omega
  go_cut [8] (fun s8 wx => ∃ (b8 g cl' : Nat), s8 = .pointer (some ⟨b8, 0, none⟩) ∧ wx.cell? ⟨b8, 0, none⟩ = some (.int .i64 (addLook c (p % c.slots) (q % ((c.homes.length : Int) + 1) - 1)).slots) ∧ wx.cell? ⟨b8, 1, none⟩ = some (.slice ah (addLook c (p % c.slots) (q % ((c.homes.length : Int) + 1) - 1)).homes.length ch) ∧
    wx.cell? ⟨b8, 2, none⟩ = some (.int .i64 (addLook c (p % c.slots) (q % ((c.homes.length : Int) + 1) - 1)).wrong) ∧ wx.cell? ⟨b8, 3, none⟩ = some (.slice (some ⟨g, 0, none⟩) (addLook c (p % c.slots) (q % ((c.homes.length : Int) + 1) - 1)).loans.length cl') ∧ IsLoans wx (some ⟨g, 0, none⟩) (addLook c (p % c.slots) (q % ((c.homes.length : Int) + 1) - 1)).loans ∧ c.loans.length + 1 ≤ cl' ∧ Below w3.heap.size w3 wx)
  case first =>
    go_region_held3 (fun w' => w'.cell? ⟨w.heap.size, 0, none⟩ = some (.int .i64 c.slots) ∧ w'.cell? ⟨w.heap.size, 1, none⟩ = some (.slice ah c.homes.length ch) ∧ w'.cell? ⟨w.heap.size, 2, none⟩ = some (.int .i64 c.wrong) ∧ w'.cell? ⟨w.heap.size, 3, none⟩ = some (.slice al c.loans.length cl)) (first | go_keep | (refine ⟨?_, ?_, ?_, ?_⟩ <;> (repeat rw [World.cell?_setCell_other _ _ _ _ (fun h => by cases h; omega)]) <;> assumption))
      (first | (go_at_call 36; refine (addLook_new (hg3.li.mono (by first | exact (Below.refl _ w3).drew | exact ((Below.refl _ w3).alloc (Nat.le_refl _) _).drew | exact ((Below.refl _ w3).drew).alloc (Nat.le_refl _) _)) hl30 _ _).mono ?_; rintro e w4 ⟨⟨g, cl', rfl, hgn, hli', hcap⟩, hb4⟩; have s0 : w4.cell? ⟨w.heap.size, 0, none⟩ = some (.int .i64 c.slots) := cell_stays hb4 (by first | exact d0 | go_simp); have s1 : w4.cell? ⟨w.heap.size, 1, none⟩ = some (.slice ah c.homes.length ch) := cell_stays hb4 (by first | exact d1 | go_simp); have s2 : w4.cell? ⟨w.heap.size, 2, none⟩ = some (.int .i64 c.wrong) := cell_stays hb4 (by first | exact d2 | go_simp); have s3 : w4.cell? ⟨w.heap.size, 3, none⟩ = some (.slice al c.loans.length cl) := cell_stays hb4 (by first | exact d3 | go_simp); obtain ⟨hcc, hff⟩ := bcell hb4))
    · go_wp2_with fail
      go_meet
      have hn := World.alloc_heap_new w4 (.cells ((addLook c (p % c.slots) (q % ((c.homes.length : Int) + 1) - 1)).cells ah ch (some ⟨g, 0, none⟩) cl') 25)
      exact ⟨w4.heap.size, g, cl', rfl, by rw [cell_of_heap hn]; rfl, by rw [cell_of_heap hn]; rfl, by rw [cell_of_heap hn]; rfl, by rw [cell_of_heap hn]; rfl, hli'.mono ((Below.refl _ w4).alloc (Nat.le_refl _) _), hcap, (((Below.refl _ w3).drew.trans hb4).alloc hb4.size _)⟩
    · go_wp2_with fail
      go_meet
      have hgn' : w3.heap.size + 1 ≤ g := by simpa using hgn
      have hne3 : g ≠ w3.heap.size := by omega
      refine ⟨w3.heap.size, g, cl', rfl, ?_, ?_, ?_, ?_, ?_, hcap, ?_⟩
      · go_simp
      · go_simp
      · go_simp
      · go_simp
      · exact loans_setCell (loans_setCell (loans_setCell (loans_setCell hli' hne3) hne3) hne3) hne3
      · have hb5 : Below w3.heap.size w3 w4 := (((Below.refl _ w3).alloc (Nat.le_refl _) _).drew.trans (hb4.mono (by simp)))
        exact (((hb5.setCell (Nat.le_refl _) _).setCell (Nat.le_refl _) _).setCell (Nat.le_refl _) _).setCell (Nat.le_refl _) _
  case rest =>
    obtain ⟨b8, g, cl', rfl, k0, k1, k2, k3, hli, hcap, hb4⟩ := hcut
    obtain ⟨w4, rfl⟩ : ∃ w4 : World, w4 = wc := ⟨_, rfl⟩
    obtain ⟨X, hX⟩ : ∃ X, X = addLook c (p % c.slots) (q % ((c.homes.length : Int) + 1) - 1) := ⟨_, rfl⟩
    have hFX : Fewer c X := by
      rw [hX]
      refine Fewer.seen HV.out hl (by simp [Cab.slotOf, inR]; omega) ?_
      by_cases h : q % ((c.homes.length : Int) + 1) - 1 = -1
      · exact .inl h
      · exact .inr (by simp [Cab.card, inR]; omega)
    have hXl : X.loans.length = c.loans.length + 1 := by rw [hX]; simp [addLook]
    rw [← hX] at k0 k1 k2 k3 hli
    have hFL : Fewer c (withWrong c nl) := Fewer.less HV.out hn0 hn1
    have hX3 := hFX.homes
    have HFX := Lib.hid hFX
    have HFL := Lib.hid hFL
    have hB4 := bst hB3 hb4
    have hg4 := hg3.mono hb4
    have hgX : Given w4 X ah ch (some ⟨g, 0, none⟩) cl' := ⟨by rw [hX3]; exact hg4.hi, hli, by rw [hX3]; exact hg4.hh, by omega, by omega⟩
    have HXl := Lib.hid hXl
    clear hX hX3 hXl hFX hFL y1 y2 y3 y4 y5 y6 y7 y8 y9 y10 m5 m6 m7 m8 hlt3 hlt4 hne1 hne2 hli hn0 hn1
    have e0 := cell_stays hb4 d0
    have e1 := cell_stays hb4 d1
    have e2 := cell_stays hb4 d2
    have e3 := cell_stays hb4 d3
    have z0 := cell_stays hb4 x0
    have z1 := cell_stays hb4 x1
    have z2 := cell_stays hb4 x2
    have z3 := cell_stays hb4 x3
    clear d0 d1 d2 d3 x0 x1 x2 x3
    have HAll4 := Lib.hid (And.intro (And.intro k0 (And.intro k1 (And.intro k2 k3))) (And.intro z0 (And.intro z1 (And.intro z2 z3))))
    clear k0 k1 k2 k3 z0 z1 z2 z3
    obtain ⟨va, vb, ve, hva⟩ : ∃ a b e : Int, blameE c = (a, b, e) := ⟨_, _, _, rfl⟩
    obtain ⟨vd, vf, vg, hvd⟩ : ∃ a b e : Int, peopleE c = (a, b, e) := ⟨_, _, _, rfl⟩
    obtain ⟨sl, sh, vh, hvs⟩ : ∃ a b e : Int, misplacedE c = ((a, b), e) := ⟨_, _, _, rfl⟩
    obtain ⟨vn, vi, hvn⟩ : ∃ a b : Int, wrongsE c = (a, b) := ⟨_, _, rfl⟩
    have HVA := Lib.hid hva
    have HVD := Lib.hid hvd
    have HVS := Lib.hid hvs
    have HVN := Lib.hid hvn
    clear hva hvd hvs hvn
    go_wp2_with fail
    refine (blame_any hg4).mono ?_
    rintro e w5 ⟨rfl, hb5⟩
    rw [HVA.out]
    have d0 := cell_stays hb5 e0
    have d1 := cell_stays hb5 e1
    have d2 := cell_stays hb5 e2
    have d3 := cell_stays hb5 e3
    clear e0 e1 e2 e3
    have hg5 := hg4.mono hb5
    go_wp2_with fail
    refine (people_any hg5).mono ?_
    rintro e w6 ⟨rfl, hb6⟩
    rw [HVD.out]
    have e0 := cell_stays hb6 d0
    have e1 := cell_stays hb6 d1
    have e2 := cell_stays hb6 d2
    have e3 := cell_stays hb6 d3
    clear d0 d1 d2 d3
    have hg6 := hg5.mono hb6
    go_wp2_with fail
    refine (misplaced_any hg6).mono ?_
    rintro e w7 ⟨rfl, hb7⟩
    rw [HVS.out]
    have d0 := cell_stays hb7 e0
    have d1 := cell_stays hb7 e1
    have d2 := cell_stays hb7 e2
    have d3 := cell_stays hb7 e3
    clear e0 e1 e2 e3
    have hg7 := hg6.mono hb7
    have hlt7 := lt_of_cell d0
    go_wp2_with fail
    have hba : Below w7.heap.size w7 (w7.alloc (.cells #[.int .i64 sl, .int .i64 sh] 37)) := (Below.refl _ w7).alloc (Nat.le_refl _) _
    refine (wrongs_any (hg7.mono hba)).mono ?_
    rintro e w8 ⟨rfl, hb8⟩
    rw [HVN.out]
    have hn7 := World.alloc_heap_new w7 (.cells #[.int .i64 sl, .int .i64 sh] 37)
    have t0 : w8.cell? ⟨w7.heap.size, 0, none⟩ = some (.int .i64 sl) := cell_stays hb8 (by rw [cell_of_heap hn7]; rfl)
    have t1 : w8.cell? ⟨w7.heap.size, 1, none⟩ = some (.int .i64 sh) := cell_stays hb8 (by rw [cell_of_heap hn7]; rfl)
    have hba8 : Below w7.heap.size w7 w8 := hba.trans (hb8.mono (by simp))
    have hb48 : Below w4.heap.size w4 w8 := bst (bst (bst hb5 hb6) hb7) hba8
    have e0 := cell_stays hba8 d0
    have e1 := cell_stays hba8 d1
    have e2 := cell_stays hba8 d2
    have e3 := cell_stays hba8 d3
    have hB8 := bst hB4 hb48
    have hg8 := hg4.mono hb48
    have hgX8 := hgX.mono hb48
    obtain ⟨⟨k0, k1, k2, k3⟩, z0, z1, z2, z3⟩ := HAll4.out
    have k0 := cell_stays hb48 k0
    have k1 := cell_stays hb48 k1
    have k2 := cell_stays hb48 k2
    have k3 := cell_stays hb48 k3
    have z0 := cell_stays hb48 z0
    have z1 := cell_stays hb48 z1
    have z2 := cell_stays hb48 z2
    have z3 := cell_stays hb48 z3
    clear d0 d1 d2 d3 hn7 hba hb8 hba8 hb5 hb6 hb7 hg4 hg5 hg6 hg7 hgX hb48 HAll4 hb4 hlt7 hg3
    go_wp2_with fail
    have hnw := World.alloc_heap_new w8 (.cells #[.int .i64 c.slots, .slice ah c.homes.length ch, .int .i64 nl, .slice al c.loans.length cl, .int .i64 X.slots, .slice ah X.homes.length ch, .int .i64 X.wrong, .slice (some ⟨g, 0, none⟩) X.loans.length cl'] 25)
    have hbw : Below w8.heap.size w8 (w8.alloc (.cells #[.int .i64 c.slots, .slice ah c.homes.length ch, .int .i64 nl, .slice al c.loans.length cl, .int .i64 X.slots, .slice ah X.homes.length ch, .int .i64 X.wrong, .slice (some ⟨g, 0, none⟩) X.loans.length cl'] 25)) := (Below.refl _ w8).alloc (Nat.le_refl _) _
    revert hnw hbw
    generalize (w8.alloc (.cells #[.int .i64 c.slots, .slice ah c.homes.length ch, .int .i64 nl, .slice al c.loans.length cl, .int .i64 X.slots, .slice ah X.homes.length ch, .int .i64 X.wrong, .slice (some ⟨g, 0, none⟩) X.loans.length cl'] 25)) = w9
    intro hnw hbw
    have hB9 := bst hB8 hbw
    have hg9 := hg8.mono hbw
    have hgX9 := hgX8.mono hbw
    have d0 := cell_stays hbw e0
    have d1 := cell_stays hbw e1
    have d2 := cell_stays hbw e2
    have d3 := cell_stays hbw e3
    have u0 := cell_stays hbw t0
    have u1 := cell_stays hbw t1
    have HY : Hid (∀ k, k < 2 → ∃ Y ya yc, Fewer c Y ∧ Given w9 Y ah ch ya yc ∧ w9.cell? ⟨w8.heap.size, k * 4, none⟩ = some (.int .i64 Y.slots) ∧ w9.cell? ⟨w8.heap.size, k * 4 + 1, none⟩ = some (.slice ah Y.homes.length ch) ∧
        w9.cell? ⟨w8.heap.size, k * 4 + 2, none⟩ = some (.int .i64 Y.wrong) ∧ w9.cell? ⟨w8.heap.size, k * 4 + 3, none⟩ = some (.slice ya Y.loans.length yc)) := by
      intro k hk
      have : k = 0 ∨ k = 1 := by omega
      rcases this with rfl | rfl
      · exact ⟨withWrong c nl, al, cl, HFL.out, givenM hg9 nl, by rw [cell_of_heap hnw]; rfl, by rw [cell_of_heap hnw]; rfl, by rw [cell_of_heap hnw]; rfl, by rw [cell_of_heap hnw]; rfl⟩
      · exact ⟨X, some ⟨g, 0, none⟩, cl', HFX.out, hgX9, by rw [cell_of_heap hnw]; rfl, by rw [cell_of_heap hnw]; rfl, by rw [cell_of_heap hnw]; rfl, by rw [cell_of_heap hnw]; rfl⟩
    clear e0 e1 e2 e3 t0 t1 k0 k1 k2 k3 z0 z1 z2 z3 hnw hbw hg8 hgX8 hgX9
    go_loopw [103] (fun i wr => ∃ k : Nat, k ≤ 2 ∧ i = .int .i64 k ∧ Below w9.heap.size w9 wr) (fun i _ => 2 - (intOf i).toNat)
    case atStart => exact ⟨0, by omega, rfl, Below.refl _ _⟩
    case round =>
      obtain ⟨k, hk, rfl, hbr⟩ := hrel
      obtain ⟨wo, rfl⟩ : ∃ wo : World, wo = wr := ⟨_, rfl⟩
      have e0 := cell_stays hbr d0
      have e1 := cell_stays hbr d1
      have e2 := cell_stays hbr d2
      have e3 := cell_stays hbr d3
      have t0 := cell_stays hbr u0
      have t1 := cell_stays hbr u1
      have hg10 := hg9.mono hbr
      by_cases hlt : k < 2
      · obtain ⟨Y, ya, yc, hFY, hgY, k0, k1, k2, k3⟩ := HY.out k hlt
        have k0 := cell_stays hbr k0
        have k1 := cell_stays hbr k1
        have k2 := cell_stays hbr k2
        have k3 := cell_stays hbr k3
        have hgYr := hgY.mono hbr
        have hbx : Below wo.heap.size wo (wo.alloc (.cells (Y.cells ah ch ya yc) 25)) := (Below.refl _ wo).alloc (Nat.le_refl _) _
        have HFY := Lib.hid hFY
        have hbx9 : Below w9.heap.size w9 (wo.alloc (.cells (Y.cells ah ch ya yc) 25)) := hbr.alloc hbr.size _
        have hYh := Lib.hid hFY.homes
        clear hFY
        by_cases hTY : truths Y = []
        · have HBY := Lib.hid (blame_no HFY.out.xv hTY)
          clear hTY
          go_wp2_with fail
          refine (blame_any (hgYr.mono hbx)).mono ?_
          rintro e w11 ⟨rfl, hb11⟩
          rw [HBY.out]
          go_wp2_with fail
          go_roundw
          case rel => exact ⟨k + 1, by omega, by go_num, bst hbx9 hb11⟩
          case measure => simp [intOf]; omega
        · have hTc := HFY.out.some hTY
          have h1 := HVA.out
          rw [blame_yes HV.out hTc] at h1
          have h2 := HVD.out
          rw [people_yes HV.out hTc] at h2
          have h3 := HVS.out
          rw [misplaced_yes HV.out hTc] at h3
          have h4 := HVN.out
          rw [wrongsE_yes HV.out (truths_allT hTc)] at h4
          simp only [Prod.mk.injEq] at h1 h2 h3 h4
          obtain ⟨rfl, rfl, rfl⟩ := h1
          obtain ⟨rfl, rfl, rfl⟩ := h2
          obtain ⟨⟨rfl, rfl⟩, rfl⟩ := h3
          obtain ⟨rfl, rfl⟩ := h4
          have a1 := andNot_zero (surelyS c) (surelyS Y) (fun i hi => HFY.out.surely hi)
          have a2 := andNot_zero (canS Y) (canS c) (fun i hi => (HFY.out.can hi).1)
          have a3 := andNot_zero (ownS c) (ownS Y) (fun i hi => HFY.out.own hi)
          have a4 := andNot_zero (mayS Y) (mayS c) (fun i hi => HFY.out.may hi)
          obtain ⟨sp1, sp2⟩ := HFY.out.span hTY
          have hln := HFY.out.least hTY
          have sq1 : decide (minL (awayL Y) < minL (awayL c)) = false := by simp; omega
          have sq2 : decide (maxL (awayL c) < maxL (awayL Y)) = false := by simp; omega
          have sq3 : decide (leastN Y < leastN c) = false := by simp; omega
          have HTY := Lib.hid hTY
          have HTC := Lib.hid hTc
          have HY1 := Lib.hid (blame_yes HFY.out.xv hTY)
          have HY2 := Lib.hid (people_yes HFY.out.xv hTY)
          have HY3 := Lib.hid (misplaced_yes HFY.out.xv hTY)
          have HY4 := Lib.hid (wrongsE_yes HFY.out.xv (truths_allT hTY))
          clear hTY hTc
          have hnx := World.alloc_heap_new wo (.cells (Y.cells ah ch ya yc) 25)
          have b0 : (wo.alloc (.cells (Y.cells ah ch ya yc) 25)).cell? ⟨wo.heap.size, 0, none⟩ = some (.int .i64 Y.slots) := by rw [cell_of_heap hnx]; rfl
          have b1 : (wo.alloc (.cells (Y.cells ah ch ya yc) 25)).cell? ⟨wo.heap.size, 1, none⟩ = some (.slice ah Y.homes.length ch) := by rw [cell_of_heap hnx]; rfl
          have b2 : (wo.alloc (.cells (Y.cells ah ch ya yc) 25)).cell? ⟨wo.heap.size, 2, none⟩ = some (.int .i64 Y.wrong) := by rw [cell_of_heap hnx]; rfl
          have b3 : (wo.alloc (.cells (Y.cells ah ch ya yc) 25)).cell? ⟨wo.heap.size, 3, none⟩ = some (.slice ya Y.loans.length yc) := by rw [cell_of_heap hnx]; rfl
          have f0 := cell_stays hbx e0
          have f1 := cell_stays hbx e1
          have f2 := cell_stays hbx e2
          have f3 := cell_stays hbx e3
          have v0 := cell_stays hbx t0
          have v1 := cell_stays hbx t1
          have hgY1 := hgYr.mono hbx
          have hgc1 := hg10.mono hbx
          have HBV := Lib.hid (And.intro (And.intro b0 (And.intro b1 (And.intro b2 b3))) (And.intro (And.intro f0 (And.intro f1 (And.intro f2 f3))) (And.intro v0 v1)))
          clear hnx b0 b1 b2 b3 f0 f1 f2 f3 v0 v1
          go_wp2_with fail
          refine (blame_any hgY1).mono ?_
          rintro e w11 ⟨rfl, hb11⟩
          rw [HY1.out]
          obtain ⟨⟨b0, b1, b2, b3⟩, ⟨f0, f1, f2, f3⟩, v0, v1⟩ := HBV.out
          clear k0 k1 k2 k3 e0 e1 e2 e3 t0 t1
          have k0 := cell_stays hb11 b0
          have k1 := cell_stays hb11 b1
          have k2 := cell_stays hb11 b2
          have k3 := cell_stays hb11 b3
          have e0 := cell_stays hb11 f0
          have e1 := cell_stays hb11 f1
          have e2 := cell_stays hb11 f2
          have e3 := cell_stays hb11 f3
          have t0 := cell_stays hb11 v0
          have t1 := cell_stays hb11 v1
          clear b0 b1 b2 b3 f0 f1 f2 f3 v0 v1
          have hgY2 := hgY1.mono hb11
          have hgc2 := hgc1.mono hb11
          go_wp2_with fail
          refine (people_any hgY2).mono ?_
          rintro e w12 ⟨rfl, hb12⟩
          rw [HY2.out]
          have b0 := cell_stays hb12 k0
          have b1 := cell_stays hb12 k1
          have b2 := cell_stays hb12 k2
          have b3 := cell_stays hb12 k3
          have f0 := cell_stays hb12 e0
          have f1 := cell_stays hb12 e1
          have f2 := cell_stays hb12 e2
          have f3 := cell_stays hb12 e3
          have v0 := cell_stays hb12 t0
          have v1 := cell_stays hb12 t1
          clear k0 k1 k2 k3 e0 e1 e2 e3 t0 t1
          have hgY3 := hgY2.mono hb12
          have hgc3 := hgc2.mono hb12
          go_wp2_with fail
          refine (misplaced_any hgY3).mono ?_
          rintro e w13 ⟨rfl, hb13⟩
          rw [HY3.out]
          have k0 := cell_stays hb13 b0
          have k1 := cell_stays hb13 b1
          have k2 := cell_stays hb13 b2
          have k3 := cell_stays hb13 b3
          have e0 := cell_stays hb13 f0
          have e1 := cell_stays hb13 f1
          have e2 := cell_stays hb13 f2
          have e3 := cell_stays hb13 f3
          have t0 := cell_stays hb13 v0
          have t1 := cell_stays hb13 v1
          clear b0 b1 b2 b3 f0 f1 f2 f3 v0 v1
          have hgY4 := hgY3.mono hb13
          have hgc4 := hgc3.mono hb13
          have hltk := lt_of_cell k0
          go_wp2_with fail
          have hbq : Below w13.heap.size w13 (w13.alloc (.cells #[.int .i64 (minL (awayL Y)), .int .i64 (maxL (awayL Y))] 37)) := (Below.refl _ w13).alloc (Nat.le_refl _) _
          refine (wrongs_any (hgY4.mono hbq)).mono ?_
          rintro e w14 ⟨rfl, hb14⟩
          rw [HY4.out]
          have hn13 := World.alloc_heap_new w13 (.cells #[.int .i64 (minL (awayL Y)), .int .i64 (maxL (awayL Y))] 37)
          have q0 : w14.cell? ⟨w13.heap.size, 0, none⟩ = some (.int .i64 (minL (awayL Y))) := cell_stays hb14 (by rw [cell_of_heap hn13]; rfl)
          have q1 : w14.cell? ⟨w13.heap.size, 1, none⟩ = some (.int .i64 (maxL (awayL Y))) := cell_stays hb14 (by rw [cell_of_heap hn13]; rfl)
          have hbq4 : Below w13.heap.size w13 w14 := hbq.trans (hb14.mono (by simp))
          have b0 := cell_stays hbq4 k0
          have b1 := cell_stays hbq4 k1
          have b2 := cell_stays hbq4 k2
          have b3 := cell_stays hbq4 k3
          have f0 := cell_stays hbq4 e0
          have f1 := cell_stays hbq4 e1
          have f2 := cell_stays hbq4 e2
          have f3 := cell_stays hbq4 e3
          have v0 := cell_stays hbq4 t0
          have v1 := cell_stays hbq4 t1
          clear k0 k1 k2 k3 e0 e1 e2 e3 t0 t1
          have hgY5 := hgY4.mono hbq4
          have hgc5 := hgc4.mono hbq4
          have hb9e : Below w9.heap.size w9 w14 := bst (bst (bst (bst hbx9 hb11) hb12) hb13) hbq4
          clear hn13 hbq hb14 hgY1 hgY2 hgY3 hgY4 hgc1 hgc2 hgc3 hgc4 hbq4 hb11 hb12 hb13 hltk HBV hbx hgYr hg10
          go_upto_region 20 with fail
          simp only [List.append_eq, List.cons_append, List.nil_append]
          go_wp2_with fail
          go_loopw [213] (fun i wr => ∃ m : Nat, m ≤ c.homes.length ∧ i = .int .i64 m ∧ Below w14.heap.size w14 wr) (fun i _ => c.homes.length - (intOf i).toNat)
          case atStart => exact ⟨0, by omega, rfl, Below.refl _ _⟩
          case round =>
            obtain ⟨m, hm, rfl, hbm⟩ := hrel
            by_cases hml : m < c.homes.length
            · have hY1 : Hid (whereE Y m = ((setL (whereL Y m) : Int), outL (whereL Y m), 0)) := where_yes HFY.out.xv HTY.out (by rw [Cab.card, hYh.out]; simp [inR]; omega)
              have hC1 : Hid (whereE c m = ((setL (whereL c m) : Int), outL (whereL c m), 0)) := where_yes HV.out HTC.out (by simp [Cab.card, inR]; omega)
              obtain ⟨hw1, hw2⟩ := HFY.out.where_ hml
              have a5 := andNot_zero (setL (whereL Y m)) (setL (whereL c m)) hw1
              have k0 := cell_stays hbm b0
              have k1 := cell_stays hbm b1
              have k2 := cell_stays hbm b2
              have k3 := cell_stays hbm b3
              have e0 := cell_stays hbm f0
              have e1 := cell_stays hbm f1
              have e2 := cell_stays hbm f2
              have e3 := cell_stays hbm f3
              have hgY6 := hgY5.mono hbm
              have hgc6 := hgc5.mono hbm
              clear hw1
              cases ho : outL (whereL Y m)
              · have hY2 : Hid (whereE Y m = ((setL (whereL Y m) : Int), false, 0)) := by rw [Hid, hY1.out, ho]
                clear ho hw2
                go_wp2_with fail
                refine (where_any hgY6 m).mono ?_
                rintro e w15 ⟨rfl, hb15⟩
                rw [hY2.out]
                have hgc7 := hgc6.mono hb15
                have j0 := cell_stays hb15 k0
                have j1 := cell_stays hb15 k1
                have j2 := cell_stays hb15 k2
                have j3 := cell_stays hb15 k3
                have i0 := cell_stays hb15 e0
                have i1 := cell_stays hb15 e1
                have i2 := cell_stays hb15 e2
                have i3 := cell_stays hb15 e3
                clear k0 k1 k2 k3 e0 e1 e2 e3
                go_wp2_with fail
                refine (where_any hgc7 m).mono ?_
                rintro e w16 ⟨rfl, hb16⟩
                rw [hC1.out]
                go_wp2_with fail
                go_roundw
                case rel => exact ⟨m + 1, by omega, by go_num, bst (bst hbm hb15) hb16⟩
                case measure => simp [intOf]; omega
              · have hY2 : Hid (whereE Y m = ((setL (whereL Y m) : Int), true, 0)) := by rw [Hid, hY1.out, ho]
                have hC2 : Hid (whereE c m = ((setL (whereL c m) : Int), true, 0)) := by rw [Hid, hC1.out, hw2 ho]
                clear ho hw2
                go_wp2_with fail
                refine (where_any hgY6 m).mono ?_
                rintro e w15 ⟨rfl, hb15⟩
                rw [hY2.out]
                have hgc7 := hgc6.mono hb15
                have j0 := cell_stays hb15 k0
                have j1 := cell_stays hb15 k1
                have j2 := cell_stays hb15 k2
                have j3 := cell_stays hb15 k3
                have i0 := cell_stays hb15 e0
                have i1 := cell_stays hb15 e1
                have i2 := cell_stays hb15 e2
                have i3 := cell_stays hb15 e3
                clear k0 k1 k2 k3 e0 e1 e2 e3
                go_wp2_with fail
                refine (where_any hgc7 m).mono ?_
                rintro e w16 ⟨rfl, hb16⟩
                rw [hC2.out]
                go_wp2_with fail
                go_roundw
                case rel => exact ⟨m + 1, by omega, by go_num, bst (bst hbm hb15) hb16⟩
                case measure => simp [intOf]; omega
            · go_wp2_with fail
              go_roundw
              case rel => exact ⟨k + 1, by omega, by go_num, bst hb9e hbm⟩
              case measure => simp [intOf]; omega
      · go_wp2_with fail
        refine (alive_any _).mono ?_
        rintro e w11 ⟨rfl, hb11⟩
        go_wp2
        go_ret
        exact ⟨rfl, bst (bst hB9 hbr) hb11⟩
set_option maxRecDepth 100000 in
theorem lawMore_o {c : Cab} {w : World} {ah : Option Addr} {ch : Nat} {al : Option Addr} {cl : Nat} {p q : Int} (hi : IsInts w ah c.homes) (li : IsLoans w al c.loans)
    (h : (decide (16 < c.homes.length) || decide (30 < c.loans.length)) = true ∨ (c.homes.length ≤ 16 ∧ c.loans.length ≤ 30 ∧ c.valid = false)) :
    Calls Try.prog 10 #[c.v ah ch al cl, .int .u8 p, .int .u8 q] w fun e w' => e = .returned (.bool true) ∧ Below w.heap.size w w' := by
  have hb0 : Below w.heap.size w (w.alloc (.cells (c.cells ah ch al cl) 25)) := (Below.refl _ w).alloc (Nat.le_refl _) _
  rcases h with h | ⟨h1, h2, hv⟩
  · have H := Lib.hid h
    clear h
    go_enter Try.func10, Try.ntmps10
    go_wp2_with fail
    refine (great_any c _).mono ?_
    rintro e w1 ⟨rfl, hb1⟩
    rw [H.out]
    go_wp2_with fail
    refine (alive_any _).mono ?_
    rintro e w9 ⟨rfl, hb9⟩
    go_wp2
    go_ret
    exact ⟨rfl, bst (bst hb0 hb1) hb9⟩
  · have H : Hid ((decide (16 < c.homes.length) || decide (30 < c.loans.length)) = false) := by unfold Hid; simp; omega
    have HV := Lib.hid hv
    clear hv
    go_enter Try.func10, Try.ntmps10
    go_wp2_with fail
    refine (great_any c _).mono ?_
    rintro e w1 ⟨rfl, hb1⟩
    rw [H.out]
    have hB1 := bst hb0 hb1
    obtain ⟨d0, d1, d2, d3⟩ : w1.cell? ⟨w.heap.size, 0, none⟩ = some (.int .i64 c.slots) ∧ w1.cell? ⟨w.heap.size, 1, none⟩ = some (.slice ah c.homes.length ch) ∧
        w1.cell? ⟨w.heap.size, 2, none⟩ = some (.int .i64 c.wrong) ∧ w1.cell? ⟨w.heap.size, 3, none⟩ = some (.slice al c.loans.length cl) := by
      have h := fun o => (hb1.cell (p := ⟨w.heap.size, o, none⟩) (by simp)).trans (cell_of_heap (World.alloc_heap_new w (.cells (c.cells ah ch al cl) 25)))
      exact ⟨h 0, h 1, h 2, h 3⟩
    go_wp2_with fail
    refine (refCab_any (hi.mono hB1) (li.mono hB1) h1 h2).mono ?_
    rintro e w2 ⟨rfl, hb2⟩
    rw [HV.out]
    go_wp2_with fail
    refine (alive_any _).mono ?_
    rintro e w9 ⟨rfl, hb9⟩
    go_wp2
    go_ret
    exact ⟨rfl, bst (bst hB1 hb2) hb9⟩
set_option maxRecDepth 100000 in
theorem lawMore_f {c : Cab} {w : World} {ah : Option Addr} {ch : Nat} {al : Option Addr} {cl : Nat} {p q : Int} (hi : IsInts w ah c.homes) (li : IsLoans w al c.loans)
    (h1 : c.homes.length ≤ 16) (h2 : c.loans.length ≤ 30) (hv : c.valid = true) (h12 : 12 ≤ c.loans.length) :
    Calls Try.prog 10 #[c.v ah ch al cl, .int .u8 p, .int .u8 q] w fun e w' => e = .returned (.bool true) ∧ Below w.heap.size w w' := by
  have hb0 : Below w.heap.size w (w.alloc (.cells (c.cells ah ch al cl) 25)) := (Below.refl _ w).alloc (Nat.le_refl _) _
  have H : Hid ((decide (16 < c.homes.length) || decide (30 < c.loans.length)) = false) := by unfold Hid; simp; omega
  have HV := Lib.hid hv
  clear hv
  go_enter Try.func10, Try.ntmps10
  go_wp2_with fail
  refine (great_any c _).mono ?_
  rintro e w1 ⟨rfl, hb1⟩
  rw [H.out]
  have hB1 := bst hb0 hb1
  obtain ⟨d0, d1, d2, d3⟩ : w1.cell? ⟨w.heap.size, 0, none⟩ = some (.int .i64 c.slots) ∧ w1.cell? ⟨w.heap.size, 1, none⟩ = some (.slice ah c.homes.length ch) ∧
      w1.cell? ⟨w.heap.size, 2, none⟩ = some (.int .i64 c.wrong) ∧ w1.cell? ⟨w.heap.size, 3, none⟩ = some (.slice al c.loans.length cl) := by
    have h := fun o => (hb1.cell (p := ⟨w.heap.size, o, none⟩) (by simp)).trans (cell_of_heap (World.alloc_heap_new w (.cells (c.cells ah ch al cl) 25)))
    exact ⟨h 0, h 1, h 2, h 3⟩
  go_wp2_with fail
  refine (refCab_any (hi.mono hB1) (li.mono hB1) h1 h2).mono ?_
  rintro e w2 ⟨rfl, hb2⟩
  rw [HV.out]
  have e0 := cell_stays hb2 d0
  have e1 := cell_stays hb2 d1
  have e2 := cell_stays hb2 d2
  have e3 := cell_stays hb2 d3
  clear d0 d1 d2 d3
  go_wp2_with fail
  refine (alive_any _).mono ?_
  rintro e w9 ⟨rfl, hb9⟩
  go_wp2
  go_ret
  exact ⟨rfl, bst (bst hB1 hb2) hb9⟩
theorem lawMore_any {c : Cab} {w : World} {ah : Option Addr} {ch : Nat} {al : Option Addr} {cl : Nat} {p q : Int} (hi : IsInts w ah c.homes) (li : IsLoans w al c.loans) (hcl : c.loans.length ≤ cl) (hp : 0 ≤ p ∧ p ≤ 255) (hq : 0 ≤ q ∧ q ≤ 255) :
    Calls Try.prog 10 #[c.v ah ch al cl, .int .u8 p, .int .u8 q] w fun e w' => e = .returned (.bool true) ∧ Below w.heap.size w w' := by
  by_cases hg : c.homes.length ≤ 16 ∧ c.loans.length ≤ 30
  · have hG : Given w c ah ch al cl := ⟨hi, li, hg.1, hg.2, hcl⟩
    cases hv : c.valid with
    | false => exact lawMore_o hi li (.inr ⟨hg.1, hg.2, hv⟩)
    | true =>
      by_cases h12 : c.loans.length < 12
      · exact lawMore_t hG hv h12 hp hq
      · exact lawMore_f hi li hg.1 hg.2 hv (by omega)
  · exact lawMore_o hi li (.inl (by simp; omega))
end Go.Proofs.Ytlhobddaojdnoaa
