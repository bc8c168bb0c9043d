/- The law LendTrue: numbers that are drawn. -/
import Derived.Test.YtlhobddaojdnoaaR3
import Derived.Deep.QuietTactic
import Derived.BigQuiet
import Derived.IntWalk
namespace Go.Proofs.Ytlhobddaojdnoaa
open Go.RowKit

/-- A slice's array holds these 16-bit numbers. -/
def IsWords (w : World) (b off : Nat) (l : List Int) : Prop := ∀ i, i < l.length → w.cell? ⟨b, off + i, none⟩ = some (.int .u16 (gi l i))
/-- A drawer: block pa counts, block pb holds the slice of numbers. -/
structure Drawer (w : World) (pa pb : Nat) (k : Nat) : Prop where
  at_ : w.heap[pa]? = some (.cells #[.int .i64 k] 3 (0, 0))
  by_ : ∃ b off cap l, w.cell? ⟨pb, 0, none⟩ = some (.slice (some ⟨b, off, none⟩) (l : List Int).length cap) ∧ IsWords w b off l ∧ 0 < l.length ∧ l.length ≤ 9223372036854775807 ∧ (∀ x ∈ l, 0 ≤ x ∧ x ≤ 65535) ∧ b ≠ pa ∧ pb ≠ pa
theorem Drawer.kept {w w' : World} {M : Nat → Prop} {pa pb k : Nat} (h : Drawer w pa pb k) (hs : Same M w w') (hm : ∀ b, b < w.heap.size → ¬ M b) : Drawer w' pa pb k := by
  have hl : pa < w.heap.size := (Array.getElem?_eq_some_iff.1 h.at_).1
  refine ⟨(hs.block pa hl (hm pa hl)).trans h.at_, ?_⟩
  obtain ⟨b, off, cap, l, h1, h2, h3, h4⟩ := h.by_
  exact ⟨b, off, cap, l, hs.cell h1 (hm _ (lt_of_cell h1)), fun i hi => hs.cell (h2 i hi) (hm _ (lt_of_cell (h2 i hi))), h3, h4⟩
set_option maxHeartbeats 1000000 in
theorem draw_any (m : Int) (hm : 1 ≤ m ∧ m ≤ 1000) {pa pb k : Nat} (hk : k ≤ 1000) {w : World} (h : Drawer w pa pb k) :
    Calls Try.prog 77 #[.int .i64 m, .pointer (some ⟨pa, 0, none⟩), .pointer (some ⟨pb, 0, none⟩)] w fun e w' => ∃ v : Int, e = .returned (.int .i64 v) ∧ 0 ≤ v ∧ v < m ∧ Drawer w' pa pb (k + 1) ∧ Same (fun i => i = pa) w w' := by
  obtain ⟨hm0, hm1⟩ := hm
  obtain ⟨b, off, cap, l, h1, h2, h3, h4, h5, h6, h7⟩ := h.by_
  have hat := h.at_
  have ca : w.cell? ⟨pa, 0, none⟩ = some (.int .i64 k) := by rw [cell_of_heap hat]; rfl
  have fa : w.frozen? ⟨pa, 0, none⟩ = false := frozen_of_heap hat
  obtain ⟨i, hi⟩ : ∃ i : Nat, i = (k + 1) % l.length := ⟨_, rfl⟩
  have hil : i < l.length := by rw [hi]; exact Nat.mod_lt _ h3
  have hx := h2 i hil
  have hb := h5 (gi l i) (by simp [gi, hil])
  obtain ⟨x, hxx⟩ : ∃ x, x = gi l i := ⟨_, rfl⟩
  rw [← hxx] at hx hb
  obtain ⟨hb0, hb1⟩ := hb
  have hrem : ((k : Int) + 1) % (l.length : Int) = (i : Int) := by rw [hi]; simp
  have HS : Hid (Same (fun i => i = pa) w (w.setCell ⟨pa, 0, none⟩ (.int .i64 ((k : Int) + 1)))) := Same.setCell (M := fun i => i = pa) (Same.refl _ w) (.inl rfl) _
  have HH : Hid ((w.setCell ⟨pa, 0, none⟩ (.int .i64 ((k : Int) + 1))).heap[pa]? = some (.cells #[.int .i64 ((k : Int) + 1)] 3 (0, 0))) := heap_setCell_at hat _
  have HD := Lib.hid h
  have HN := Lib.hid (And.intro h1 (And.intro h2 (And.intro h3 (And.intro h4 (And.intro h5 (And.intro h6 h7))))))
  have hne1 : b ≠ pa := h6
  have hne2 : pb ≠ pa := h7
  clear h h2 h5 hat hi hxx h6 h7
  go_enter Try.func77, Try.ntmps77
  go_wp2
  have c1 : (w.setCell ⟨pa, 0, none⟩ (.int .i64 ((k : Int) + 1))).cell? ⟨pa, 0, none⟩ = some (.int .i64 ((k : Int) + 1)) := World.cell?_setCell_same _ _ _ ca
  have c2 := HS.out.cell h1 hne2
  have c3 := HS.out.cell hx hne1
  clear ca fa h1 hx
  revert HS HH c1 c2 c3
  generalize (w.setCell ⟨pa, 0, none⟩ (.int .i64 ((k : Int) + 1))) = w1
  intro HS HH c1 c2 c3
  have x1 := fun y : Aft w1.heap.size w1 => cell_stays y.h c1
  have x2 := fun y : Aft w1.heap.size w1 => cell_stays y.h c2
  have x3 := fun y : Aft w1.heap.size w1 => cell_stays y.h c3
  have y1 : IntKind.i64.wrap x = x := IntWalk.i64_in _ (by omega)
  have y2 : IntKind.i64.wrap (17 * ((k : Int) + 1)) = 17 * ((k : Int) + 1) := IntWalk.i64_in _ (by omega)
  have y3 : IntKind.i64.wrap (x + 17 * ((k : Int) + 1)) = x + 17 * ((k : Int) + 1) := IntWalk.i64_in _ (by omega)
  have y4 : ((k : Int) + 1).tmod (l.length : Int) = (i : Int) := by rw [Int.tmod_eq_emod_of_nonneg (by omega)]; exact hrem
  have y5 : (x + 17 * ((k : Int) + 1)).tmod m = (x + 17 * ((k : Int) + 1)) % m := Int.tmod_eq_emod_of_nonneg (by omega)
  have y6 : ¬ (l.length : Int) = 0 := by omega
  have y7 : ¬ m = 0 := by omega
  refine wp_region_aft mixed (by kernel_rfl) ?_
  repeat (go_big_quiet_step (fail))
  refine wpQuiet_nil ?_
  rintro _ ⟨y, rfl⟩
  go_wp2
  go_ret
  have hv0 := Int.emod_nonneg (x + 17 * ((k : Int) + 1)) y7
  have hv1 := Int.emod_lt_of_pos (x + 17 * ((k : Int) + 1)) (show 0 < m by omega)
  have hsy : Same (fun i => i = pa) w1 y.v := Same.of_below _ y.h
  obtain ⟨z1, z2, z3, z4, z5, z6, z7⟩ := HN.out
  refine ⟨_, rfl, hv0, hv1, ⟨?_, ?_⟩, HS.out.trans hsy⟩
  · rw [y.h.block pa (Array.getElem?_eq_some_iff.1 HH.out).1, HH.out]
    simp
  · exact ⟨b, off, cap, l, cell_stays y.h (HS.out.cell z1 z7), fun j hj => cell_stays y.h (HS.out.cell (z2 j hj) z6), z3, z4, z5, z6, z7⟩
set_option maxHeartbeats 400000 in
theorem lies76 (at_ : List Int) (slot : Int) {pt cap : Nat} {a : Option Addr} {w : World} (h1 : w.cell? ⟨pt, 0, none⟩ = some (.slice a at_.length cap)) (hi : IsInts w a at_) (hl : at_.length ≤ 5) :
    Calls Try.prog 76 #[.int .i64 slot, .pointer (some ⟨pt, 0, none⟩)] w fun e w' => e = .returned (.int .i64 (lies at_ slot)) ∧ w = w' := by
  go_enter Try.func76, Try.ntmps76
  go_wp2
  go_loop [8] (fun i => ∃ k : Nat, k ≤ at_.length ∧ i = .int .i64 k ∧ Hid (lies at_ slot = liesFrom (at_.drop k) slot k)) (fun i => at_.length - (intOf i).toNat)
  case atStart => exact ⟨0, by omega, rfl, rfl⟩
  case round =>
    obtain ⟨k, hk, rfl, HL⟩ := hrel
    by_cases hlt : k < at_.length
    · obtain ⟨b, off, hah, hcell⟩ := hi k hlt
      have HH := Lib.hid hah
      subst hah
      by_cases he : gi at_ k = slot
      · have hb : (gi at_ k == slot) = true := by simpa using he
        have HE := Lib.hid he
        clear he
        go_wp2
        go_ret
        exact ⟨ret_int (by rw [HL.out, liesFrom_hit hlt HE.out]), rfl⟩
      · have hb : (gi at_ k == slot) = false := by simpa using he
        have HE := Lib.hid he
        clear he
        go_wp2
        go_round
        case rel => exact ⟨k + 1, by omega, by go_num, by rw [Hid, HL.out, liesFrom_miss hlt HE.out]⟩
        case measure => simp [intOf]; omega
    · go_wp2
      go_ret
      exact ⟨ret_int (by rw [HL.out, List.drop_of_length_le (by omega)]; rfl), rfl⟩
end Go.Proofs.Ytlhobddaojdnoaa
