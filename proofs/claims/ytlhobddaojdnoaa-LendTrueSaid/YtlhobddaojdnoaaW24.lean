/- The sample. -/
import Derived.Test.YtlhobddaojdnoaaW23
import Derived.Laws.AppendOwn
namespace Go.Proofs.Ytlhobddaojdnoaa
open Go.RowKit

theorem res_c37 {fn : Func} {p : Tmp} (h : fn.results = #[.cell p 37]) (tmps : Array Value) {w : World} {b : Nat} {x y : Int} (hp : tmps.getD p undef = .pointer (some ⟨b, 0, none⟩))
    (h0 : w.cell? ⟨b, 0, none⟩ = some (.int .i64 x)) (h1 : w.cell? ⟨b, 1, none⟩ = some (.int .i64 y)) : (results fn tmps).run Try.prog w = .ok (.agg #[.int .i64 x, .int .i64 y]) w := by
  have hp' : tmps[p]?.getD undef = .pointer (some ⟨b, 0, none⟩) := by simpa using hp
  simp [results, h, hp', h0, h1, go_sem]
theorem res_c25 {fn : Func} {p : Tmp} (h : fn.results = #[.cell p 25]) (tmps : Array Value) {w : World} {b : Nat} {x y : Int} {u v : Value} (hp : tmps.getD p undef = .pointer (some ⟨b, 0, none⟩))
    (h0 : w.cell? ⟨b, 0, none⟩ = some (.int .i64 x)) (h1 : w.cell? ⟨b, 1, none⟩ = some u) (h2 : w.cell? ⟨b, 2, none⟩ = some (.int .i64 y)) (h3 : w.cell? ⟨b, 3, none⟩ = some v) : (results fn tmps).run Try.prog w = .ok (.agg #[.int .i64 x, u, .int .i64 y, v]) w := by
  have hp' : tmps[p]?.getD undef = .pointer (some ⟨b, 0, none⟩) := by simpa using hp
  simp [results, h, hp', h0, h1, h2, h3, go_sem]
theorem span_any (a b : Int) (w : World) : Calls Try.prog 32 #[.int .i64 a, .int .i64 b] w fun e w' => e = .returned (.agg #[.int .i64 a, .int .i64 b]) ∧ Below w.heap.size w w' := by
  go_enter Try.func32, Try.ntmps32
  go_wp2
  have hn := World.alloc_heap_new w (.cells #[.int .i64 a, .int .i64 b] 37)
  refine bodyPost_ret (res_c37 rfl _ rfl (by rw [cell_of_heap hn]; rfl) (by rw [cell_of_heap hn]; rfl)) rfl ?_
  exact ⟨rfl, (Below.refl _ w).alloc (Nat.le_refl _) _⟩
theorem isInts3 {w : World} {b : Nat} {f : Nat × Nat} {t : TypeId} (h : w.heap[b]? = some (.cells #[.int .i64 0, .int .i64 1, .int .i64 2] t f)) : IsInts w (some ⟨b, 0, none⟩) [0, 1, 2] := by
  intro i hi
  refine ⟨b, 0, rfl, ?_⟩
  rw [cell_of_heap h]
  have : i = 0 ∨ i = 1 ∨ i = 2 := by simp at hi; omega
  rcases this with rfl | rfl | rfl <;> rfl
set_option maxRecDepth 100000 in
set_option maxHeartbeats 1000000 in
theorem sample_no (wr : Int) (w : World) :
    Calls Try.prog 31 #[.int .i64 wr, .bool false] w fun e w' => (∃ ah ch al cl, e = .returned ((sampleC wr false).v ah ch al cl) ∧ Given w' (sampleC wr false) ah ch al cl) ∧ Below w.heap.size w w' := by
  go_enter Try.func31, Try.ntmps31
  go_wp2
  obtain ⟨q0, q1, q2⟩ := heap3 w (.cells #[.int .i64 4, .slice (some ⟨w.heap.size + 1 + 1, 0, none⟩) 3 3, .int .i64 wr, .slice (some ⟨w.heap.size + 1, 0, none⟩) 4 4] 25)
    (.cells #[.int .i64 0, .int .i64 0, .int .i64 0, .int .i64 0, .int .i64 0, .int .i64 1, .int .i64 1, .int .i64 0, .int .i64 1, .int .i64 0, .int .i64 0, .int .i64 0, .int .i64 1, .int .i64 1, .int .i64 1, .int .i64 0] 48)
    (.cells #[.int .i64 0, .int .i64 1, .int .i64 2] 3)
  refine bodyPost_ret (res_c25 rfl _ rfl (by rw [cell_of_heap q0]; rfl) (by rw [cell_of_heap q0]; rfl) (by rw [cell_of_heap q0]; rfl) (by rw [cell_of_heap q0]; rfl)) rfl ?_
  refine ⟨⟨_, _, _, _, rfl, isInts3 q2, ?_, by simp [sampleC], by simp [sampleC], by simp [sampleC]⟩, (((Below.refl _ w).alloc (Nat.le_refl _) _).alloc (by simp) _).alloc (by simp; omega) _⟩
  intro i hi
  refine ⟨w.heap.size + 1, 0, rfl, ?_⟩
  simp only [cell_of_heap q1]
  have : i = 0 ∨ i = 1 ∨ i = 2 ∨ i = 3 := by simp [sampleC] at hi; omega
  rcases this with rfl | rfl | rfl | rfl <;> exact ⟨rfl, rfl, rfl, rfl⟩
theorem heap5 (w : World) (a b d e f : Obj) : let W := (((((w.alloc a).alloc b).alloc d).alloc e).alloc f).drew
    W.heap[w.heap.size]? = some a ∧ W.heap[w.heap.size + 1 + 1 + 1]? = some e ∧ W.heap[w.heap.size + 1 + 1 + 1 + 1]? = some f := by
  obtain ⟨q0, _, _⟩ := heap3 w a b d
  have qe := World.alloc_heap_new (((w.alloc a).alloc b).alloc d) e
  have qf := World.alloc_heap_new ((((w.alloc a).alloc b).alloc d).alloc e) f
  simp only [World.size_alloc] at qe qf
  refine ⟨(Below.heap_alloc _ _ _ (by simp only [World.size_alloc]; omega)).trans ((Below.heap_alloc _ _ _ (by simp only [World.size_alloc]; omega)).trans q0), (Below.heap_alloc _ _ _ (by simp only [World.size_alloc]; omega)).trans qe, qf⟩
set_option maxRecDepth 100000 in
set_option maxHeartbeats 1000000 in
theorem sample_yes (wr : Int) (w : World) :
    Calls Try.prog 31 #[.int .i64 wr, .bool true] w fun e w' => (∃ ah ch al cl, e = .returned ((sampleC wr true).v ah ch al cl) ∧ Given w' (sampleC wr true) ah ch al cl) ∧ Below w.heap.size w w' := by
  have hcap : 5 ≤ (Question.appendCap 5 4 48).cut (w.tape w.drawn (Question.appendCap 5 4 48)) := grownCap_ge w 5 4 48
  go_enter Try.func31, Try.ntmps31
  go_wp2
  revert hcap
  generalize (Question.appendCap 5 4 48).cut (w.tape w.drawn (Question.appendCap 5 4 48)) = N
  intro hcap
  obtain ⟨q0, q1, q2⟩ := heap5 w (.cells #[.int .i64 4, .slice (some ⟨w.heap.size + 1 + 1 + 1 + 1, 0, none⟩) 3 3, .int .i64 wr, .slice (some ⟨w.heap.size + 1 + 1 + 1, 0, none⟩) 5 N] 25)
    (.cells #[.int .i64 0, .int .i64 0, .int .i64 0, .int .i64 0, .int .i64 0, .int .i64 1, .int .i64 1, .int .i64 0, .int .i64 1, .int .i64 0, .int .i64 0, .int .i64 0, .int .i64 1, .int .i64 1, .int .i64 1, .int .i64 0] 48)
    (.cells #[.int .i64 2, .int .i64 0, .int .i64 0, .int .i64 1] 48)
    (.cells (#[.int .i64 0, .int .i64 0, .int .i64 0, .int .i64 0, .int .i64 0, .int .i64 1, .int .i64 1, .int .i64 0, .int .i64 1, .int .i64 0, .int .i64 0, .int .i64 0, .int .i64 1, .int .i64 1, .int .i64 1, .int .i64 0] ++ (#[.int .i64 2, .int .i64 0, .int .i64 0, .int .i64 1] ++ Builtin.zeroCells #[.int .i64 0, .int .i64 0, .int .i64 0, .int .i64 0] (N - 5))) 48)
    (.cells #[.int .i64 0, .int .i64 1, .int .i64 2] 3)
  refine bodyPost_ret (res_c25 rfl _ rfl (by rw [cell_of_heap q0]; rfl) (by rw [cell_of_heap q0]; rfl) (by rw [cell_of_heap q0]; rfl) (by rw [cell_of_heap q0]; rfl)) rfl ?_
  refine ⟨⟨_, _, _, _, rfl, isInts3 q2, ?_, by simp [sampleC], by simp [sampleC], by simpa [sampleC] using hcap⟩, (((((((Below.refl _ w).alloc (Nat.le_refl _) _).alloc (by simp) _).alloc (by simp; omega) _).alloc (by simp; omega) _).alloc (by simp; omega) _)).drew⟩
  intro i hi
  refine ⟨w.heap.size + 1 + 1 + 1, 0, rfl, ?_⟩
  simp only [cell_of_heap q1]
  have : i = 0 ∨ i = 1 ∨ i = 2 ∨ i = 3 ∨ i = 4 := by simp [sampleC] at hi; omega
  rcases this with rfl | rfl | rfl | rfl | rfl <;> simp [sampleC, gl, Array.getElem?_append]
end Go.Proofs.Ytlhobddaojdnoaa
