/- The least and the greatest number: one more is added. -/
import Derived.Test.YtlhobddaojdnoaaW6
namespace Go.Proofs.Ytlhobddaojdnoaa
open Go.RowKit

set_option maxHeartbeats 1000000 in
theorem endsAdd_any (x : Int) {b : Nat} {lo hi : Int} {s : Bool} {w : World} (h : EndsAt w b lo hi s) :
    Calls Try.prog 65 #[.pointer (some ⟨b, 0, none⟩), .int .i64 x] w fun e w' => e = .returned (.tuple #[]) ∧ EndsAt w' b (if s then min lo x else x) (if s then max hi x else x) true ∧ Same (fun k => k = b) w w' := by
  obtain ⟨h0, h1, h2, hf⟩ := h.cells
  have f0 := hf 0
  have f1 := hf 1
  have f2 := hf 2
  clear hf
  have H := Lib.hid h
  clear h
  have hS : ∀ (k : Nat) (v : Value) (u : World), Same (fun k => k = b) w u → Same (fun k => k = b) w (u.setCell ⟨b, k, none⟩ v) := fun k v u hu => hu.setCell (.inl rfl) v
  cases s
  · go_enter Try.func65, Try.ntmps65
    go_wp2
    go_region
    go_end0
    refine ⟨rfl, ?_, (hS _ _ _ (hS _ _ _ (hS _ _ _ (hS _ _ _ (hS _ _ _ (Same.refl _ w)))))).drew⟩
    have e1 := heap_setCell_at (k := 0) H.out (.int .i64 x)
    have e2 := heap_setCell_at (k := 1) e1 (.int .i64 x)
    have e3 := heap_setCell_at (k := 2) e2 (.bool true)
    have e4 := heap_setCell_at (k := 0) e3 (.int .i64 x)
    have e5 := heap_setCell_at (k := 1) e4 (.int .i64 x)
    exact e5
  · go_enter Try.func65, Try.ntmps65
    go_wp2
    go_region
    go_end0
    refine ⟨rfl, ?_, (hS _ _ _ (hS _ _ _ (Same.refl _ w))).drew⟩
    have e1 := heap_setCell_at (k := 0) H.out (.int .i64 (if x < lo then x else lo))
    have e2 := heap_setCell_at (k := 1) e1 (.int .i64 (if hi < x then x else hi))
    have m1 : min lo x = if x < lo then x else lo := by split <;> omega
    have m2 : max hi x = if hi < x then x else hi := by split <;> omega
    simp only [if_true, m1, m2]
    exact e2

end Go.Proofs.Ytlhobddaojdnoaa
