/- The law LendTurned: its closures, the lists that it makes. -/
import Derived.Test.YtlhobddaojdnoaaR3
import Derived.Test.YtlhobddaojdnoaaL9
namespace Go.Proofs.Ytlhobddaojdnoaa
open Go.RowKit

theorem card42 (i : Int) (a n : Nat) (ha : a ≤ 255) (hn : n ≤ 5) (hi : i = -1 ∨ (0 ≤ i ∧ i < n)) {pa pn : Nat} {w : World} (h1 : w.cell? ⟨pa, 0, none⟩ = some (.int .u8 a)) (h2 : w.cell? ⟨pn, 0, none⟩ = some (.int .i64 n)) :
    Calls Try.prog 42 #[.int .i64 i, .pointer (some ⟨pa, 0, none⟩), .pointer (some ⟨pn, 0, none⟩)] w fun e w' => e = .returned (.int .i64 (cardT n a i)) ∧ w = w' := by
  unfold cardT
  by_cases h : i = -1
  · subst h
    go_enter Try.func42, Try.ntmps42
    go_wp2
    go_ret
    exact ⟨ret_int (by simp), rfl⟩
  · rw [if_neg h]
    obtain ⟨h3, h4⟩ : 0 ≤ i ∧ i < n := by omega
    have hb : (i == -1) = false := by simpa using h
    have hn1 : 1 ≤ (n : Int) := by omega
    clear h hi
    go_enter Try.func42, Try.ntmps42
    go_wp2
    go_ret
    exact ⟨rfl, rfl⟩
theorem slot43 (s : Int) (b : Nat) (S : Int) (hb : b ≤ 255) (hS : 1 ≤ S ∧ S ≤ 6) (hs : 0 ≤ s ∧ s < S) {pb pc : Nat} {w : World} (h1 : w.cell? ⟨pb, 0, none⟩ = some (.int .u8 b)) (h2 : w.cell? ⟨pc, 0, none⟩ = some (.int .i64 S)) :
    Calls Try.prog 43 #[.int .i64 s, .pointer (some ⟨pb, 0, none⟩), .pointer (some ⟨pc, 0, none⟩)] w fun e w' => e = .returned (.int .i64 (slotT S b s)) ∧ w = w' := by
  obtain ⟨hS0, hS1⟩ := hS
  obtain ⟨hs0, hs1⟩ := hs
  unfold slotT
  go_enter Try.func43, Try.ntmps43
  go_wp2
  go_ret
  exact ⟨rfl, rfl⟩
theorem pers44 (p : Int) (d : Nat) (hd : d ≤ 255) (hp : 0 ≤ p ∧ p ≤ 7) {pd : Nat} {w : World} (h1 : w.cell? ⟨pd, 0, none⟩ = some (.int .u8 d)) :
    Calls Try.prog 44 #[.int .i64 p, .pointer (some ⟨pd, 0, none⟩)] w fun e w' => e = .returned (.int .i64 (persT d p)) ∧ w = w' := by
  obtain ⟨hp0, hp1⟩ := hp
  unfold persT
  go_enter Try.func44, Try.ntmps44
  go_wp2
  go_ret
  exact ⟨rfl, rfl⟩
theorem grown_setCell (w : World) (p : Addr) (v : Value) : w.grownBy (w.setCell p v) (some p.block) := by
  have h := Same.setCell (M := fun i => i = p.block) (Same.refl _ w) (p := p) (.inl rfl) v
  exact ⟨h.os, h.tape, h.output, h.size, fun k hk hn => h.block k hk (fun e => hn (by rw [e]))⟩
theorem own_setCell {w : World} {v : Value} {base : Nat} {e : TypeId} {size n : Nat} {xs : List Value} (h : w.ownsRow base e size v n xs) {b o : Nat} {x : Value} (hn : v.ownBlock ≠ some b) : (w.setCell ⟨b, o, none⟩ x).ownsRow base e size v n xs :=
  h.kept (grown_setCell w ⟨b, o, none⟩ x) (by
    cases hv : v.ownBlock with
    | none => exact .inl rfl
    | some k => exact .inr (by rw [← hv]; exact hn))
theorem loanCells_append (ls : List Ln) (y : Ln) : loanCells (ls ++ [y]) = loanCells ls ++ loanCells [y] := by simp [loanCells]
theorem put_loan {w4 w6 : World} {X b18 k o : Nat} {lv S H G : Value} {ls : List Ln} (y : Ln) (v : Value) (hX : w6.heap[X]? = some (.cells #[S, H, G, lv] 25 (0, 0))) (hown : w6.ownsRow w4.heap.size 48 4 lv k (loanCells ls))
    (hXlt : X < w4.heap.size) (hb2 : b18 ≠ X) (hb3 : lv.ownBlock ≠ some b18) (h4b : w4.heap.size ≤ b18) (hS : Same (fun i => i = X) w4 w6) (hk : k ≤ 30) :
    ∃ v' w9, (Builtin.append_ #[23, 23] 23 #[lv, .slice (some ⟨w6.heap.size, 0, none⟩) 1 1]).run Try.prog ((w6.setCell ⟨b18, o, none⟩ v).alloc (.cells y.arr 48)) = .ok v' w9 ∧ w9.cell? ⟨X, 3, none⟩ = some lv ∧ w9.frozen? ⟨X, 3, none⟩ = false ∧
      Hid ((w9.setCell ⟨X, 3, none⟩ v').heap[X]? = some (.cells #[S, H, G, v'] 25 (0, 0))) ∧ Same (fun i => i = X) w4 (w9.setCell ⟨X, 3, none⟩ v') ∧ (w9.setCell ⟨X, 3, none⟩ v').ownsRow w4.heap.size 48 4 v' (k + 1) (loanCells (ls ++ [y])) := by
  obtain ⟨i1, hj0, hj1, hj2, hj3⟩ := info_parts info48
  have hz6 := hS.size
  have hX6 := (Array.getElem?_eq_some_iff.1 hX).1
  have hS7 : Same (fun i => i = X) w4 (w6.setCell ⟨b18, o, none⟩ v) := hS.setCell (.inr h4b) _
  have hs7 : (w6.setCell ⟨b18, o, none⟩ v).heap.size = w6.heap.size := by simp
  have hX7 : (w6.setCell ⟨b18, o, none⟩ v).heap[X]? = some (.cells #[S, H, G, lv] 25 (0, 0)) :=
    ((grown_setCell w6 ⟨b18, o, none⟩ v).block X hX6 (fun e => hb2 (by simpa using e.symm))).trans hX
  have hown7 := own_setCell (o := o) (x := v) hown hb3
  have hown8 := hown7.alloc (.cells y.arr 48)
  have hnew := World.alloc_heap_new (w6.setCell ⟨b18, o, none⟩ v) (.cells y.arr 48)
  rw [hs7] at hnew
  obtain ⟨v', w9, hr, own9, hg9⟩ := append_rows w4.heap.size 23 23 48 i1 _ 4 32 Try.underlying23 hj0 hj1 hj2 hj3 rfl (by decide) _ _ _ hown8 (some ⟨w6.heap.size, 0, none⟩) 1 1 (loanCells [y])
    rfl (fun _ => ⟨_, rfl, fun j u hj => by
      have hlt := (List.getElem?_eq_some_iff.1 hj).1
      rw [loanCells_len] at hlt
      have e : ((⟨w6.heap.size, 0, none⟩ : Addr).add j) = ⟨w6.heap.size, j, none⟩ := by unfold Addr.add; split <;> simp_all
      rw [e, cell_of_heap hnew]
      simpa [loanCells] using hj⟩) (loanCells_one _) (by simp [maxLen]; omega) (by omega) (by simp; omega)
  have hrow : ∀ q, lv.ownBlock = some q → w4.heap.size ≤ q := fun q hq => (hown.lt q hq).1
  have hX8 : ((w6.setCell ⟨b18, o, none⟩ v).alloc (.cells y.arr 48)).heap[X]? = some (.cells #[S, H, G, lv] 25 (0, 0)) := (Below.heap_alloc _ _ _ (by rw [hs7]; exact hX6)).trans hX7
  have hX9 : w9.heap[X]? = some (.cells #[S, H, G, lv] 25 (0, 0)) := by
    rw [hg9.block X (by simp; omega) (fun e => by have := hrow X e.symm; omega)]
    exact hX8
  have hS9 : Same (fun i => i = X) w4 w9 := (hS7.alloc _).grown hg9 (fun q hq => .inr (hrow q hq))
  refine ⟨v', w9, hr, by rw [cell_of_heap hX9]; rfl, frozen_of_heap hX9, heap_setCell_at hX9 _, hS9.setCell (.inl rfl) _, ?_⟩
  rw [loanCells_append]
  refine own_setCell own9 (fun e => ?_)
  have := (own9.lt X e).1
  omega
end Go.Proofs.Ytlhobddaojdnoaa
