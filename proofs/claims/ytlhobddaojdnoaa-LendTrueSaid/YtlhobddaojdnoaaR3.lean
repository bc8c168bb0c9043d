/- A cabinet with one look more. -/
import Derived.Test.YtlhobddaojdnoaaR2
import Derived.Test.YtlhobddaojdnoaaW13
import Derived.Test.YtlhobddaojdnoaaW24
import Derived.Test.YtlhobddaojdnoaaL2
import Derived.Test.YtlhobddaojdnoaaBase6
import Derived.Outline
namespace Go.Proofs.Ytlhobddaojdnoaa
open Go.RowKit

theorem info48 : (Try.prog.info? 48).map (fun i => (i.zero, i.size, i.bytes)) = some (some (.agg #[.int .i64 0, .int .i64 0, .int .i64 0, .int .i64 0]), 4, 32) := by kernel_rfl
def loanCells (ls : List Ln) : List Value := ls.flatMap fun l => l.arr.toList
theorem loanCells_len (ls : List Ln) : (loanCells ls).length = ls.length * 4 := by
  induction ls with
  | nil => rfl
  | cons l ls ih => simp [loanCells] at ih ⊢; omega
theorem loanCells_get : ∀ (ls : List Ln) (i r : Nat), i < ls.length → r < 4 → (loanCells ls)[i * 4 + r]? = (gl ls i).arr[r]?
  | [], i, r, h, _ => by simp at h
  | l :: ls, 0, r, _, hr => by
    have : (loanCells (l :: ls)) = l.arr.toList ++ loanCells ls := rfl
    rw [this, Nat.zero_mul, Nat.zero_add, List.getElem?_append_left (by simpa using hr)]
    simp [gl]
  | l :: ls, i + 1, r, h, hr => by
    have e : (loanCells (l :: ls)) = l.arr.toList ++ loanCells ls := rfl
    have e2 : (i + 1) * 4 + r = l.arr.toList.length + (i * 4 + r) := by simp; omega
    rw [e, e2, List.getElem?_append_right (by omega), Nat.add_sub_cancel_left, loanCells_get ls i r (by simpa using h) hr]
    simp [gl]
theorem loanCells_one (ls : List Ln) : ∀ u ∈ loanCells ls, u.oneCell' = true := by
  intro u hu
  obtain ⟨l, _, h⟩ := List.mem_flatMap.1 hu
  simp at h
  rcases h with rfl | rfl | rfl | rfl <;> rfl
theorem loanCells_of {w : World} {a : Option Addr} {ls : List Ln} (h : IsLoans w a ls) (hn : ls.length ≠ 0) : ∃ ad, a = some ad ∧ ∀ j u, (loanCells ls)[j]? = some u → w.cell? (ad.add j) = some u := by
  obtain ⟨b, off, rfl, _⟩ := h 0 (by omega)
  refine ⟨_, rfl, fun j u hj => ?_⟩
  have hlt := (List.getElem?_eq_some_iff.1 hj).1
  rw [loanCells_len] at hlt
  obtain ⟨b', off', he, h0, h1, h2, h3⟩ := h (j / 4) (by omega)
  cases he
  have e : ((⟨b, off, none⟩ : Addr).add j) = ⟨b, off + j, none⟩ := by unfold Addr.add; split <;> simp_all
  rw [e]
  have hj' : j = j / 4 * 4 + j % 4 := by omega
  rw [hj', loanCells_get ls _ _ (by omega) (by omega)] at hj
  have hr : j % 4 = 0 ∨ j % 4 = 1 ∨ j % 4 = 2 ∨ j % 4 = 3 := by omega
  rw [show off + j = off + j / 4 * 4 + j % 4 by omega]
  rcases hr with hr | hr | hr | hr <;> rw [hr] at hj ⊢ <;> simp at hj <;> subst hj <;> assumption
theorem loans_of_cells {w : World} {g : Nat} {ls : List Ln} (h : ∀ j u, (loanCells ls)[j]? = some u → w.cell? ⟨g, j, none⟩ = some u) : IsLoans w (some ⟨g, 0, none⟩) ls := by
  intro i hi
  refine ⟨g, 0, rfl, ?_⟩
  simp only [Nat.zero_add]
  exact ⟨h (i * 4 + 0) _ (loanCells_get ls i 0 hi (by decide)), h (i * 4 + 1) _ (loanCells_get ls i 1 hi (by decide)), h (i * 4 + 2) _ (loanCells_get ls i 2 hi (by decide)), h (i * 4 + 3) _ (loanCells_get ls i 3 hi (by decide))⟩

set_option maxRecDepth 100000 in
set_option maxHeartbeats 1000000 in
theorem addLook_new {c : Cab} {w : World} {ah : Option Addr} {ch : Nat} {al : Option Addr} {cl : Nat} (li : IsLoans w al c.loans) (hl : c.loans.length ≤ 30) (slot card : Int) :
    Calls Try.prog 36 #[c.v ah ch al cl, .int .i64 slot, .int .i64 card] w fun e w' => (∃ g cl', e = .returned ((addLook c slot card).v ah ch (some ⟨g, 0, none⟩) cl') ∧ w.heap.size ≤ g ∧ IsLoans w' (some ⟨g, 0, none⟩) (addLook c slot card).loans ∧ c.loans.length + 1 ≤ cl') ∧ Below w.heap.size w w' := by
  obtain ⟨i0, hi0, hz0, hz1, hz2⟩ := info_parts info48
  obtain ⟨W, hW⟩ : ∃ W : World, W = (((w.alloc (.cells (c.cells ah ch al cl) 25)).alloc (.cells #[.int .i64 0, .slice none 0 0, .int .i64 0, .slice none 0 0] 25)).alloc (.cells (c.cells ah ch al cl) 25)) := ⟨_, rfl⟩
  have hWz : W.heap.size = w.heap.size + 3 := by rw [hW]; simp
  have hWb : Below w.heap.size w W := by rw [hW]; exact (((Below.refl _ w).alloc (Nat.le_refl _) _).alloc (by simp) _).alloc (by simp; omega) _
  have hWb' : Below w.heap.size w (W.alloc (.cells #[] 48)) := hWb.alloc (by omega) _
  have own0 : (W.alloc (.cells #[] 48)).ownsRow W.heap.size 48 4 (.slice (some ⟨W.heap.size, 0, none⟩) 0 0) 0 [] := World.ownsRow_made W #[] 0 (Nat.le_refl _) (by simp [maxLen]) (by simp)
  obtain ⟨v1, w1, hr1, own1, hg1⟩ := append_rows W.heap.size 23 23 48 i0 _ 4 32 Try.underlying23 hi0 hz0 hz1 hz2 rfl (by decide) _ _ _ own0 al c.loans.length cl (loanCells c.loans)
    (loanCells_len _) (loanCells_of (li.mono hWb')) (loanCells_one _) (by simp [maxLen]; omega) (by omega) (by simp)
  have hs1 : W.heap.size + 1 ≤ w1.heap.size := by have := hg1.size; simpa using this
  have own1' := own1.alloc (.cells (Ln.arr ⟨2, card, 0, slot⟩) 48)
  have hnew := World.alloc_heap_new w1 (.cells (Ln.arr ⟨2, card, 0, slot⟩) 48)
  obtain ⟨v2, w2, hr2, own2, hg2⟩ := append_rows W.heap.size 23 23 48 i0 _ 4 32 Try.underlying23 hi0 hz0 hz1 hz2 rfl (by decide) _ _ _ own1' (some ⟨w1.heap.size, 0, none⟩) 1 1 (loanCells [⟨2, card, 0, slot⟩])
    rfl (fun _ => ⟨_, rfl, fun j u hj => by
      have hlt := (List.getElem?_eq_some_iff.1 hj).1
      rw [loanCells_len] at hlt
      have e : ((⟨w1.heap.size, 0, none⟩ : Addr).add j) = ⟨w1.heap.size, j, none⟩ := by unfold Addr.add; split <;> simp_all
      rw [e, cell_of_heap hnew]
      simpa [loanCells] using hj⟩) (loanCells_one _) (by simp [maxLen]; omega) (by omega) (by simp; omega)
  have hb1 : Below W.heap.size W w1 := grown_below ((Below.refl _ W).alloc (Nat.le_refl _) _) own0 hg1 (by simp)
  have hb2 : Below W.heap.size W w2 := grown_below (hb1.alloc (by omega) _) own1' hg2 (by simp; omega)
  have hz2' := hb2.size
  have hxs : W.heap[w.heap.size]? = some (.cells (c.cells ah ch al cl) 25 (0, 0)) ∧ W.heap[w.heap.size + 1]? = some (.cells #[.int .i64 0, .slice none 0 0, .int .i64 0, .slice none 0 0] 25 (0, 0)) ∧ W.heap[w.heap.size + 1 + 1]? = some (.cells (c.cells ah ch al cl) 25 (0, 0)) := by
    rw [hW]; exact heap3 w _ _ _
  have hx1 := (hb2.block (w.heap.size + 1) (by omega)).trans hxs.2.1
  have hx2 := (hb2.block (w.heap.size + 1 + 1) (by omega)).trans hxs.2.2
  have hsl := own_slice own2
  obtain ⟨a2, cap2, rfl, hcap, _⟩ := hsl
  have k0 : w2.cell? ⟨w.heap.size + 1 + 1, 0, none⟩ = some (.int .i64 c.slots) := by rw [cell_of_heap hx2]; rfl
  have k1 : w2.cell? ⟨w.heap.size + 1 + 1, 1, none⟩ = some (.slice ah c.homes.length ch) := by rw [cell_of_heap hx2]; rfl
  have k2 : w2.cell? ⟨w.heap.size + 1 + 1, 2, none⟩ = some (.int .i64 c.wrong) := by rw [cell_of_heap hx2]; rfl
  have k3 : w2.cell? ⟨w.heap.size + 1 + 1, 3, none⟩ = some (.slice al c.loans.length cl) := by rw [cell_of_heap hx2]; rfl
  have j0 : w2.cell? ⟨w.heap.size + 1, 0, none⟩ = some (.int .i64 0) := by rw [cell_of_heap hx1]; rfl
  have j1 : w2.cell? ⟨w.heap.size + 1, 1, none⟩ = some (.slice none 0 0) := by rw [cell_of_heap hx1]; rfl
  have j2 : w2.cell? ⟨w.heap.size + 1, 2, none⟩ = some (.int .i64 0) := by rw [cell_of_heap hx1]; rfl
  have j3 : w2.cell? ⟨w.heap.size + 1, 3, none⟩ = some (.slice none 0 0) := by rw [cell_of_heap hx1]; rfl
  have f1 : ∀ k, w2.frozen? ⟨w.heap.size + 1, k, none⟩ = false := fun k => frozen_of_heap hx1
  have f2 : ∀ k, w2.frozen? ⟨w.heap.size + 1 + 1, k, none⟩ = false := fun k => frozen_of_heap hx2
  have hWz' : W.heap.size = w.heap.size + 1 + 1 + 1 := hWz
  have HB := Lib.hid (And.intro hWb (And.intro hb2 (And.intro own2 hcap)))
  rw [hWz'] at hr1
  rw [hW] at hr1
  have HR1 := Lib.hid hr1
  have HR2 := Lib.hid hr2
  have HWz := Lib.hid hWz
  clear hr1 hr2 hWz hWz' hW hxs hx1 hx2 hz2' hWb hWb' hb1 hb2 own0 own1 own1' own2 hg1 hg2 hnew hs1 hcap hi0 hz0 hz1 hz2
  go_enter Try.func36, Try.ntmps36
  go_wp2_with (first | (at_builtin; refine wpList_append_run rfl (.tmp 9) (.tmp 11) 23 rfl _ _ _ _ rfl rfl HR1.out ?_) | (at_builtin; refine wpList_append_run rfl (.tmp 12) (.tmp 16) 23 rfl _ _ _ _ rfl rfl HR2.out ?_))
  obtain ⟨hWb, hb2, own2, hcap⟩ := HB.out
  have hz2 := hb2.size
  have hzz := HWz.out
  obtain ⟨g, cap', he, hg1, _, _, _, hcells⟩ := own_cell own2 (by omega)
  simp only [Value.slice.injEq, true_and] at he
  obtain ⟨rfl, rfl⟩ := he
  have hcs : loanCells c.loans ++ loanCells [⟨2, card, 0, slot⟩] = loanCells (addLook c slot card).loans := by simp [loanCells, addLook]
  rw [List.nil_append, hcs] at hcells
  rw [Nat.zero_add] at hcap
  refine bodyPost_ret (res_c25 (x := c.slots) (y := c.wrong) (u := .slice ah c.homes.length ch) (v := .slice (some ⟨g, 0, none⟩) (c.loans.length + 1) cap2) rfl _ rfl ?_ ?_ ?_ ?_) rfl ⟨⟨g, cap2, ?_, by omega, loans_of_cells ?_, hcap⟩, ?_⟩
  · go_simp
  · go_simp
  · go_simp
  · go_simp
  · simp [addLook]
  · intro j u hj
    have hn1 : g ≠ w.heap.size + 1 := by omega
    have hn2 : g ≠ w.heap.size + 1 + 1 := by omega
    rw [World.cell?_setCell_other _ _ _ _ (fun h => hn1 (by cases h; rfl)), World.cell?_setCell_other _ _ _ _ (fun h => hn1 (by cases h; rfl)), World.cell?_setCell_other _ _ _ _ (fun h => hn1 (by cases h; rfl)), World.cell?_setCell_other _ _ _ _ (fun h => hn1 (by cases h; rfl)), World.cell?_setCell_other _ _ _ _ (fun h => hn2 (by cases h; rfl))]
    exact hcells j u hj
  · exact ((((((hWb.trans (hb2.mono (by omega))).setCell (by simp; omega) _).setCell (by simp) _).setCell (by simp) _).setCell (by simp) _).setCell (by simp) _)
theorem addLook_any {c : Cab} {w : World} {ah : Option Addr} {ch : Nat} {al : Option Addr} {cl : Nat} (li : IsLoans w al c.loans) (hl : c.loans.length ≤ 30) (slot card : Int) :
    Calls Try.prog 36 #[c.v ah ch al cl, .int .i64 slot, .int .i64 card] w fun e w' => (∃ al' cl', e = .returned ((addLook c slot card).v ah ch al' cl') ∧ IsLoans w' al' (addLook c slot card).loans ∧ c.loans.length + 1 ≤ cl') ∧ Below w.heap.size w w' :=
  (addLook_new li hl slot card).mono fun _ _ ⟨⟨_, cl', h1, _, h2, h3⟩, h4⟩ => ⟨⟨_, cl', h1, h2, h3⟩, h4⟩
end Go.Proofs.Ytlhobddaojdnoaa
