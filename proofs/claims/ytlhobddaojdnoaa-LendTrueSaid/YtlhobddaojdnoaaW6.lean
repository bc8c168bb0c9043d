/- The rules; sets; the least and the greatest number; a misfit that is caught. -/
import Derived.Test.YtlhobddaojdnoaaW5
import Derived.BigRegion
namespace Go.Proofs.Ytlhobddaojdnoaa
open Go.RowKit

theorem anything_any (i : Int) (l : Ln) (b : Bool) (w : World) :
    Calls Try.prog 116 #[.agg #[], .int .i64 i, l.v, .bool b] w fun e w' => e = .returned (.bool true) ∧ Below w.heap.size w w' := by
  go_enter Try.func116, Try.ntmps116
  go_wp2
  go_ret
  exact ⟨rfl, ((Below.refl _ w).alloc (Nat.le_refl _) _).alloc (by simp) _⟩

theorem must_any (k i : Int) (wr b : Bool) (l : Ln) (w : World) :
    Calls Try.prog 117 #[.agg #[.int .i64 k, .bool wr], .int .i64 i, l.v, .bool b] w fun e w' => e = .returned (.bool (!decide (i = k) || (b == wr))) ∧ Below w.heap.size w w' := by
  go_enter Try.func117, Try.ntmps117
  go_wp2
  all_goals go_ret
  all_goals refine ⟨ret_bool ?_, ((Below.refl _ w).alloc (Nat.le_refl _) _).alloc (by simp) _⟩
  · have h : i = k := by assumption
    simp [h]
  · have h : ¬ i = k := by assumption
    simp [h]

theorem honest_any (p i : Int) (b : Bool) (l : Ln) (w : World) :
    Calls Try.prog 118 #[.agg #[.int .i64 p], .int .i64 i, l.v, .bool b] w fun e w' => e = .returned (.bool (!decide (l.person = p) || !b)) ∧ Below w.heap.size w w' := by
  go_enter Try.func118, Try.ntmps118
  go_wp2
  all_goals go_ret
  all_goals refine ⟨ret_bool ?_, ((Below.refl _ w).alloc (Nat.le_refl _) _).alloc (by simp) _⟩
  · have h : l.person = p := by assumption
    simp [h]
  · have h : ¬ l.person = p := by assumption
    simp [h]

theorem or_nat (a b : Nat) (ha : a < 2 ^ 62) (hb : b < 2 ^ 62) : bits .or .i64 (a : Int) (b : Int) = ((a ||| b : Nat) : Int) :=
  (bits_nat .i64 62 (by decide) (fun n h1 h2 => by rw [IntKind.wrap_i64]; omega) a b ha hb).2
set_option maxHeartbeats 400000 in
/-- Two sets joined. -/
theorem union_any (x y : Nat) (hx : x < 2 ^ 62) (hy : y < 2 ^ 62) {b cap : Nat} {w : World} (h0 : w.cell? ⟨b, 0, none⟩ = some (.int .i64 x)) (h1 : w.cell? ⟨b, 1, none⟩ = some (.int .i64 y)) :
    Calls Try.prog 54 #[.slice (some ⟨b, 0, none⟩) 2 cap] w fun e w' => e = .returned (.int .i64 (x ||| y : Nat)) ∧ w = w' := by
  have e1 : bits .or .i64 0 (x : Int) = (x : Int) := by have := or_nat 0 x (by decide) hx; simpa using this
  have e2 := or_nat x y hx hy
  clear hx hy
  go_enter Try.func54, Try.ntmps54
  go_wp2
  refine wp_loop_rounds 3 ?_
  rw [rounds_succ]
  go_wp2
  rw [rounds_succ]
  go_wp2
  rw [rounds_succ]
  go_wp2
  go_ret
  exact ⟨rfl, rfl⟩

/-- Block b holds the least and the greatest number, and whether there is one. -/
def EndsAt (w : World) (b : Nat) (lo hi : Int) (s : Bool) : Prop := w.heap[b]? = some (.cells #[.int .i64 lo, .int .i64 hi, .bool s] 86 (0, 0))
theorem EndsAt.cells {w : World} {b : Nat} {lo hi : Int} {s : Bool} (h : EndsAt w b lo hi s) :
    w.cell? ⟨b, 0, none⟩ = some (.int .i64 lo) ∧ w.cell? ⟨b, 1, none⟩ = some (.int .i64 hi) ∧ w.cell? ⟨b, 2, none⟩ = some (.bool s) ∧ ∀ o, w.frozen? ⟨b, o, none⟩ = false := by
  unfold EndsAt at h
  refine ⟨by simp [World.cell?, h], by simp [World.cell?, h], by simp [World.cell?, h], fun o => by simp [World.frozen?, h]⟩
theorem heap_setCell_at {w : World} {b k : Nat} {c : Array Value} {t : TypeId} {f : Nat × Nat} (h : w.heap[b]? = some (.cells c t f)) (v : Value) :
    (w.setCell ⟨b, k, none⟩ v).heap[b]? = some (.cells (c.setIfInBounds k v) t f) := by
  simp [World.setCell, Array.getElem?_modify, h]
theorem EndsAt.lt {w : World} {b : Nat} {lo hi : Int} {s : Bool} (h : EndsAt w b lo hi s) : b < w.heap.size := (Array.getElem?_eq_some_iff.1 h).1

theorem caught_nil (pe : Value) (w : World) : Calls Try.prog 47 #[.nilIface, pe] w fun e w' => e = .returned (.tuple #[]) ∧ w = w' := by
  go_enter Try.func47, Try.ntmps47
  go_wp2
  refine bodyPost_ret (results_none rfl _ _ _) rfl ?_
  exact ⟨rfl, rfl⟩

theorem assert105 (v : Value) (w : World) : (Instr.typeAssert (.iface 105 v) 20 105 true).run Try.prog w = .ok (.tuple #[v, .bool true]) w := by
  simp [Instr.typeAssert, run_underlying Try.underlying105, Result.andThen]

theorem caught_misfit (x : Int) {b : Nat} {v : Value} {w : World} (hc : w.cell? ⟨b, 0, none⟩ = some v) (hf : w.frozen? ⟨b, 0, none⟩ = false) :
    Calls Try.prog 47 #[.iface 105 (.agg #[.int .i64 x]), .pointer (some ⟨b, 0, none⟩)] w fun e w' => e = .returned (.tuple #[]) ∧ w' = (w.alloc (.cells #[.int .i64 x] 105)).setCell ⟨b, 0, none⟩ (.int .i64 x) := by
  have hb := lt_of_cell hc
  have ha := assert105 (.agg #[.int .i64 x])
  go_enter Try.func47, Try.ntmps47
  go_wp2
  go_end0
  refine ⟨rfl, ?_⟩
  rw [World.setCell_alloc_past _ _ _ _ hb]

theorem recov46_ok (pe : Value) (w : World) : CallsD Try.prog 46 #[pe] .returning w fun e u' w' => e = .returned (.tuple #[]) ∧ u' = .returning ∧ w = w' := by
  refine callsD_of_wpS Try.func46 rfl fun c₀ cs hu => ?_
  apply wpS_region
  simp [wpOpsS, go_sem, recoverD, hu, Try.ntmps46]
  refine (caught_nil pe w).mono ?_
  rintro e w' ⟨rfl, rfl⟩
  simp [bodyPostS, results, Try.results46]
  rw [← hu]
theorem recov46_no (x : Int) {b : Nat} {v : Value} {w : World} (hc : w.cell? ⟨b, 0, none⟩ = some v) (hf : w.frozen? ⟨b, 0, none⟩ = false) :
    CallsD Try.prog 46 #[.pointer (some ⟨b, 0, none⟩)] (.panicking [{ v := .iface 105 (.agg #[.int .i64 x]), recovered := false }]) w fun e u' w' =>
      e = .returned (.tuple #[]) ∧ u' = .panicking [{ v := .iface 105 (.agg #[.int .i64 x]), recovered := true }] ∧ w' = (w.alloc (.cells #[.int .i64 x] 105)).setCell ⟨b, 0, none⟩ (.int .i64 x) := by
  refine callsD_of_wpS Try.func46 rfl fun c₀ cs hu => ?_
  apply wpS_region
  simp [wpOpsS, go_sem, recoverD, hu, Try.ntmps46]
  refine (caught_misfit x hc hf).mono ?_
  rintro e w' ⟨rfl, rfl⟩
  simp [bodyPostS, results, Try.results46]

theorem recov50_ok (pe : Value) (w : World) : CallsD Try.prog 50 #[pe] .returning w fun e u' w' => e = .returned (.tuple #[]) ∧ u' = .returning ∧ w = w' := by
  refine callsD_of_wpS Try.func50 rfl fun c₀ cs hu => ?_
  apply wpS_region
  simp [wpOpsS, go_sem, recoverD, hu, Try.ntmps50]
  refine (caught_nil pe w).mono ?_
  rintro e w' ⟨rfl, rfl⟩
  simp [bodyPostS, results, Try.results50]
  rw [← hu]
theorem recov50_no (x : Int) {b : Nat} {v : Value} {w : World} (hc : w.cell? ⟨b, 0, none⟩ = some v) (hf : w.frozen? ⟨b, 0, none⟩ = false) :
    CallsD Try.prog 50 #[.pointer (some ⟨b, 0, none⟩)] (.panicking [{ v := .iface 105 (.agg #[.int .i64 x]), recovered := false }]) w fun e u' w' =>
      e = .returned (.tuple #[]) ∧ u' = .panicking [{ v := .iface 105 (.agg #[.int .i64 x]), recovered := true }] ∧ w' = (w.alloc (.cells #[.int .i64 x] 105)).setCell ⟨b, 0, none⟩ (.int .i64 x) := by
  refine callsD_of_wpS Try.func50 rfl fun c₀ cs hu => ?_
  apply wpS_region
  simp [wpOpsS, go_sem, recoverD, hu, Try.ntmps50]
  refine (caught_misfit x hc hf).mono ?_
  rintro e w' ⟨rfl, rfl⟩
  simp [bodyPostS, results, Try.results50]

theorem recov58_ok (pe : Value) (w : World) : CallsD Try.prog 58 #[pe] .returning w fun e u' w' => e = .returned (.tuple #[]) ∧ u' = .returning ∧ w = w' := by
  refine callsD_of_wpS Try.func58 rfl fun c₀ cs hu => ?_
  apply wpS_region
  simp [wpOpsS, go_sem, recoverD, hu, Try.ntmps58]
  refine (caught_nil pe w).mono ?_
  rintro e w' ⟨rfl, rfl⟩
  simp [bodyPostS, results, Try.results58]
  rw [← hu]
theorem recov58_no (x : Int) {b : Nat} {v : Value} {w : World} (hc : w.cell? ⟨b, 0, none⟩ = some v) (hf : w.frozen? ⟨b, 0, none⟩ = false) :
    CallsD Try.prog 58 #[.pointer (some ⟨b, 0, none⟩)] (.panicking [{ v := .iface 105 (.agg #[.int .i64 x]), recovered := false }]) w fun e u' w' =>
      e = .returned (.tuple #[]) ∧ u' = .panicking [{ v := .iface 105 (.agg #[.int .i64 x]), recovered := true }] ∧ w' = (w.alloc (.cells #[.int .i64 x] 105)).setCell ⟨b, 0, none⟩ (.int .i64 x) := by
  refine callsD_of_wpS Try.func58 rfl fun c₀ cs hu => ?_
  apply wpS_region
  simp [wpOpsS, go_sem, recoverD, hu, Try.ntmps58]
  refine (caught_misfit x hc hf).mono ?_
  rintro e w' ⟨rfl, rfl⟩
  simp [bodyPostS, results, Try.results58]

theorem recov63_ok (pe : Value) (w : World) : CallsD Try.prog 63 #[pe] .returning w fun e u' w' => e = .returned (.tuple #[]) ∧ u' = .returning ∧ w = w' := by
  refine callsD_of_wpS Try.func63 rfl fun c₀ cs hu => ?_
  apply wpS_region
  simp [wpOpsS, go_sem, recoverD, hu, Try.ntmps63]
  refine (caught_nil pe w).mono ?_
  rintro e w' ⟨rfl, rfl⟩
  simp [bodyPostS, results, Try.results63]
  rw [← hu]
theorem recov63_no (x : Int) {b : Nat} {v : Value} {w : World} (hc : w.cell? ⟨b, 0, none⟩ = some v) (hf : w.frozen? ⟨b, 0, none⟩ = false) :
    CallsD Try.prog 63 #[.pointer (some ⟨b, 0, none⟩)] (.panicking [{ v := .iface 105 (.agg #[.int .i64 x]), recovered := false }]) w fun e u' w' =>
      e = .returned (.tuple #[]) ∧ u' = .panicking [{ v := .iface 105 (.agg #[.int .i64 x]), recovered := true }] ∧ w' = (w.alloc (.cells #[.int .i64 x] 105)).setCell ⟨b, 0, none⟩ (.int .i64 x) := by
  refine callsD_of_wpS Try.func63 rfl fun c₀ cs hu => ?_
  apply wpS_region
  simp [wpOpsS, go_sem, recoverD, hu, Try.ntmps63]
  refine (caught_misfit x hc hf).mono ?_
  rintro e w' ⟨rfl, rfl⟩
  simp [bodyPostS, results, Try.results63]

theorem recov67_ok (pe : Value) (w : World) : CallsD Try.prog 67 #[pe] .returning w fun e u' w' => e = .returned (.tuple #[]) ∧ u' = .returning ∧ w = w' := by
  refine callsD_of_wpS Try.func67 rfl fun c₀ cs hu => ?_
  apply wpS_region
  simp [wpOpsS, go_sem, recoverD, hu, Try.ntmps67]
  refine (caught_nil pe w).mono ?_
  rintro e w' ⟨rfl, rfl⟩
  simp [bodyPostS, results, Try.results67]
  rw [← hu]
theorem recov67_no (x : Int) {b : Nat} {v : Value} {w : World} (hc : w.cell? ⟨b, 0, none⟩ = some v) (hf : w.frozen? ⟨b, 0, none⟩ = false) :
    CallsD Try.prog 67 #[.pointer (some ⟨b, 0, none⟩)] (.panicking [{ v := .iface 105 (.agg #[.int .i64 x]), recovered := false }]) w fun e u' w' =>
      e = .returned (.tuple #[]) ∧ u' = .panicking [{ v := .iface 105 (.agg #[.int .i64 x]), recovered := true }] ∧ w' = (w.alloc (.cells #[.int .i64 x] 105)).setCell ⟨b, 0, none⟩ (.int .i64 x) := by
  refine callsD_of_wpS Try.func67 rfl fun c₀ cs hu => ?_
  apply wpS_region
  simp [wpOpsS, go_sem, recoverD, hu, Try.ntmps67]
  refine (caught_misfit x hc hf).mono ?_
  rintro e w' ⟨rfl, rfl⟩
  simp [bodyPostS, results, Try.results67]

theorem recov70_ok (pe : Value) (w : World) : CallsD Try.prog 70 #[pe] .returning w fun e u' w' => e = .returned (.tuple #[]) ∧ u' = .returning ∧ w = w' := by
  refine callsD_of_wpS Try.func70 rfl fun c₀ cs hu => ?_
  apply wpS_region
  simp [wpOpsS, go_sem, recoverD, hu, Try.ntmps70]
  refine (caught_nil pe w).mono ?_
  rintro e w' ⟨rfl, rfl⟩
  simp [bodyPostS, results, Try.results70]
  rw [← hu]
theorem recov70_no (x : Int) {b : Nat} {v : Value} {w : World} (hc : w.cell? ⟨b, 0, none⟩ = some v) (hf : w.frozen? ⟨b, 0, none⟩ = false) :
    CallsD Try.prog 70 #[.pointer (some ⟨b, 0, none⟩)] (.panicking [{ v := .iface 105 (.agg #[.int .i64 x]), recovered := false }]) w fun e u' w' =>
      e = .returned (.tuple #[]) ∧ u' = .panicking [{ v := .iface 105 (.agg #[.int .i64 x]), recovered := true }] ∧ w' = (w.alloc (.cells #[.int .i64 x] 105)).setCell ⟨b, 0, none⟩ (.int .i64 x) := by
  refine callsD_of_wpS Try.func70 rfl fun c₀ cs hu => ?_
  apply wpS_region
  simp [wpOpsS, go_sem, recoverD, hu, Try.ntmps70]
  refine (caught_misfit x hc hf).mono ?_
  rintro e w' ⟨rfl, rfl⟩
  simp [bodyPostS, results, Try.results70]

theorem recov72_ok (pe : Value) (w : World) : CallsD Try.prog 72 #[pe] .returning w fun e u' w' => e = .returned (.tuple #[]) ∧ u' = .returning ∧ w = w' := by
  refine callsD_of_wpS Try.func72 rfl fun c₀ cs hu => ?_
  apply wpS_region
  simp [wpOpsS, go_sem, recoverD, hu, Try.ntmps72]
  refine (caught_nil pe w).mono ?_
  rintro e w' ⟨rfl, rfl⟩
  simp [bodyPostS, results, Try.results72]
  rw [← hu]
theorem recov72_no (x : Int) {b : Nat} {v : Value} {w : World} (hc : w.cell? ⟨b, 0, none⟩ = some v) (hf : w.frozen? ⟨b, 0, none⟩ = false) :
    CallsD Try.prog 72 #[.pointer (some ⟨b, 0, none⟩)] (.panicking [{ v := .iface 105 (.agg #[.int .i64 x]), recovered := false }]) w fun e u' w' =>
      e = .returned (.tuple #[]) ∧ u' = .panicking [{ v := .iface 105 (.agg #[.int .i64 x]), recovered := true }] ∧ w' = (w.alloc (.cells #[.int .i64 x] 105)).setCell ⟨b, 0, none⟩ (.int .i64 x) := by
  refine callsD_of_wpS Try.func72 rfl fun c₀ cs hu => ?_
  apply wpS_region
  simp [wpOpsS, go_sem, recoverD, hu, Try.ntmps72]
  refine (caught_misfit x hc hf).mono ?_
  rintro e w' ⟨rfl, rfl⟩
  simp [bodyPostS, results, Try.results72]

theorem recov74_ok (pe : Value) (w : World) : CallsD Try.prog 74 #[pe] .returning w fun e u' w' => e = .returned (.tuple #[]) ∧ u' = .returning ∧ w = w' := by
  refine callsD_of_wpS Try.func74 rfl fun c₀ cs hu => ?_
  apply wpS_region
  simp [wpOpsS, go_sem, recoverD, hu, Try.ntmps74]
  refine (caught_nil pe w).mono ?_
  rintro e w' ⟨rfl, rfl⟩
  simp [bodyPostS, results, Try.results74]
  rw [← hu]
theorem recov74_no (x : Int) {b : Nat} {v : Value} {w : World} (hc : w.cell? ⟨b, 0, none⟩ = some v) (hf : w.frozen? ⟨b, 0, none⟩ = false) :
    CallsD Try.prog 74 #[.pointer (some ⟨b, 0, none⟩)] (.panicking [{ v := .iface 105 (.agg #[.int .i64 x]), recovered := false }]) w fun e u' w' =>
      e = .returned (.tuple #[]) ∧ u' = .panicking [{ v := .iface 105 (.agg #[.int .i64 x]), recovered := true }] ∧ w' = (w.alloc (.cells #[.int .i64 x] 105)).setCell ⟨b, 0, none⟩ (.int .i64 x) := by
  refine callsD_of_wpS Try.func74 rfl fun c₀ cs hu => ?_
  apply wpS_region
  simp [wpOpsS, go_sem, recoverD, hu, Try.ntmps74]
  refine (caught_misfit x hc hf).mono ?_
  rintro e w' ⟨rfl, rfl⟩
  simp [bodyPostS, results, Try.results74]
end Go.Proofs.Ytlhobddaojdnoaa
