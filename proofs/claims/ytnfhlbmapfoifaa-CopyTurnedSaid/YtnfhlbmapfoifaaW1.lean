/- The small functions of the copies: numbers, spans, a misfit that is caught; whether prints are valid. Whether prints are valid; prints that are looked at; numbers of cards. Prints that are looked at; numbers of cards. A way: whether it has a round; how many originals; whether a card comes from another one; whether marks are kept. -/
import Derived.Test.YtnfhlbmapfoifaaProg
import Derived.Test.YtnfhlbmapfoifaaPure
import Derived.Test.YtnfhlbmapfoifaaBase
import Derived.Test.YtnfhlbmapfoifaaBase6
import Derived.Deep.DeepCutAuto
namespace Go.Proofs.Ytnfhlbmapfoifaa
open Go.RowKit
set_option linter.unusedVariables false

theorem ret_bool {a b : Bool} (h : a = b) : Ending.returned (.bool a) = .returned (.bool b) := by rw [h]
theorem ret_int {k : IntKind} {a b : Int} (h : a = b) : Ending.returned (.int k a) = .returned (.int k b) := by rw [h]
theorem mixed : Try.prog.follows .mixedOrders = true := by kernel_rfl
theorem heap_lt {w : World} {g : Nat} {o : Obj} (h : w.heap[g]? = some o) : g < w.heap.size := (Array.getElem?_eq_some_iff.1 h).1
theorem heap_setCell_at {w : World} {b k : Nat} {c : Array Value} {t : TypeId} {f : Nat × Nat} (h : w.heap[b]? = some (.cells c t f)) (v : Value) :
    (w.setCell ⟨b, k, none⟩ v).heap[b]? = some (.cells (c.setIfInBounds k v) t f) := by
  simp [World.setCell, Array.getElem?_modify, h]
theorem cell_of_heap {w : World} {b k : Nat} {c : Array Value} {t : TypeId} {f : Nat × Nat} (h : w.heap[b]? = some (.cells c t f)) : w.cell? ⟨b, k, none⟩ = c[k]? := by simp [World.cell?, h]
theorem frozen_of_heap {w : World} {b k : Nat} {c : Array Value} {t : TypeId} (h : w.heap[b]? = some (.cells c t (0, 0))) : w.frozen? ⟨b, k, none⟩ = false := by simp [World.frozen?, h]
theorem bst {B : Nat} {w w1 w2 : World} (h : Below B w w1) (k : Below w1.heap.size w1 w2) (hB : B ≤ w.heap.size) : Below B w w2 := h.trans (k.mono (Nat.le_trans hB h.size))

theorem within_any (n lo hi : Int) (w : World) :
    Calls Try.prog 96 #[.int .i64 n, .int .i64 lo, .int .i64 hi] w fun e w' => e = .returned (.bool (inR n lo hi)) ∧ w = w' := by
  unfold inR
  go_enter Try.func96, Try.ntmps96
  go_wp2
  all_goals go_ret
  all_goals refine ⟨ret_bool ?_, rfl⟩
  · have h : lo ≤ n := by assumption
    simp [h]
  · have h : n < lo := by assumption
    simp; omega
theorem need_yes (e : Int) (w : World) : Calls Try.prog 67 #[.bool true, .int .i64 e] w fun en w' => en = .returned (.tuple #[]) ∧ w = w' := by
  go_enter Try.func67, Try.ntmps67
  go_wp2
  go_end0
  exact ⟨rfl, rfl⟩
theorem need_no (e : Int) (w : World) : Calls Try.prog 67 #[.bool false, .int .i64 e] w fun en w' => en = .panicked [{ v := .iface 115 (.agg #[.int .i64 e]), recovered := false }] ∧ w = w' := by
  go_enter Try.func67, Try.ntmps67
  go_wp2
  exact ⟨rfl, rfl, rfl⟩
theorem caught_nil (pe : Value) (w : World) : Calls Try.prog 49 #[.nilIface, pe] w fun e w' => e = .returned (.tuple #[]) ∧ w = w' := by
  go_enter Try.func49, Try.ntmps49
  go_wp2
  refine bodyPost_ret (results_none rfl _ _ _) rfl ?_
  exact ⟨rfl, rfl⟩
theorem assert115 (v : Value) (w : World) : (Instr.typeAssert (.iface 115 v) 20 115 true).run Try.prog w = .ok (.tuple #[v, .bool true]) w := by
  simp [Instr.typeAssert, run_underlying Try.underlying115, Result.andThen]
theorem caught_misfit (x : Int) {b : Nat} {v : Value} {w : World} (hc : w.cell? ⟨b, 0, none⟩ = some v) (hf : w.frozen? ⟨b, 0, none⟩ = false) :
    Calls Try.prog 49 #[.iface 115 (.agg #[.int .i64 x]), .pointer (some ⟨b, 0, none⟩)] w fun e w' => e = .returned (.tuple #[]) ∧ w' = (w.alloc (.cells #[.int .i64 x] 115)).setCell ⟨b, 0, none⟩ (.int .i64 x) := by
  have hb := lt_of_cell hc
  have ha := assert115 (.agg #[.int .i64 x])
  go_enter Try.func49, Try.ntmps49
  go_wp2
  go_end0
  refine ⟨rfl, ?_⟩
  rw [World.setCell_alloc_past _ _ _ _ hb]

theorem recov48_ok (pe : Value) (w : World) : CallsD Try.prog 48 #[pe] .returning w fun e u' w' => e = .returned (.tuple #[]) ∧ u' = .returning ∧ w = w' := by
  refine callsD_of_wpS Try.func48 rfl fun c₀ cs hu => ?_
  apply wpS_region
  simp [wpOpsS, go_sem, recoverD, hu, Try.ntmps48]
  refine (caught_nil pe w).mono ?_
  rintro e w' ⟨rfl, rfl⟩
  simp [bodyPostS, results, Try.results48]
  rw [← hu]
theorem recov48_no (x : Int) {b : Nat} {v : Value} {w : World} (hc : w.cell? ⟨b, 0, none⟩ = some v) (hf : w.frozen? ⟨b, 0, none⟩ = false) :
    CallsD Try.prog 48 #[.pointer (some ⟨b, 0, none⟩)] (.panicking [{ v := .iface 115 (.agg #[.int .i64 x]), recovered := false }]) w fun e u' w' =>
      e = .returned (.tuple #[]) ∧ u' = .panicking [{ v := .iface 115 (.agg #[.int .i64 x]), recovered := true }] ∧ w' = (w.alloc (.cells #[.int .i64 x] 115)).setCell ⟨b, 0, none⟩ (.int .i64 x) := by
  refine callsD_of_wpS Try.func48 rfl fun c₀ cs hu => ?_
  apply wpS_region
  simp [wpOpsS, go_sem, recoverD, hu, Try.ntmps48]
  refine (caught_misfit x hc hf).mono ?_
  rintro e w' ⟨rfl, rfl⟩
  simp [bodyPostS, results, Try.results48]
theorem cf48 (args : Array Value) (w : World) : (callFunc 48 args).run Try.prog w = .ok (.enter 48 args) w := by simp [callFunc, Try.func48, Try.f48, go_sem]
theorem recov62_ok (pe : Value) (w : World) : CallsD Try.prog 62 #[pe] .returning w fun e u' w' => e = .returned (.tuple #[]) ∧ u' = .returning ∧ w = w' := by
  refine callsD_of_wpS Try.func62 rfl fun c₀ cs hu => ?_
  apply wpS_region
  simp [wpOpsS, go_sem, recoverD, hu, Try.ntmps62]
  refine (caught_nil pe w).mono ?_
  rintro e w' ⟨rfl, rfl⟩
  simp [bodyPostS, results, Try.results62]
  rw [← hu]
theorem recov62_no (x : Int) {b : Nat} {v : Value} {w : World} (hc : w.cell? ⟨b, 0, none⟩ = some v) (hf : w.frozen? ⟨b, 0, none⟩ = false) :
    CallsD Try.prog 62 #[.pointer (some ⟨b, 0, none⟩)] (.panicking [{ v := .iface 115 (.agg #[.int .i64 x]), recovered := false }]) w fun e u' w' =>
      e = .returned (.tuple #[]) ∧ u' = .panicking [{ v := .iface 115 (.agg #[.int .i64 x]), recovered := true }] ∧ w' = (w.alloc (.cells #[.int .i64 x] 115)).setCell ⟨b, 0, none⟩ (.int .i64 x) := by
  refine callsD_of_wpS Try.func62 rfl fun c₀ cs hu => ?_
  apply wpS_region
  simp [wpOpsS, go_sem, recoverD, hu, Try.ntmps62]
  refine (caught_misfit x hc hf).mono ?_
  rintro e w' ⟨rfl, rfl⟩
  simp [bodyPostS, results, Try.results62]
theorem cf62 (args : Array Value) (w : World) : (callFunc 62 args).run Try.prog w = .ok (.enter 62 args) w := by simp [callFunc, Try.func62, Try.f62, go_sem]
theorem recov65_ok (pe : Value) (w : World) : CallsD Try.prog 65 #[pe] .returning w fun e u' w' => e = .returned (.tuple #[]) ∧ u' = .returning ∧ w = w' := by
  refine callsD_of_wpS Try.func65 rfl fun c₀ cs hu => ?_
  apply wpS_region
  simp [wpOpsS, go_sem, recoverD, hu, Try.ntmps65]
  refine (caught_nil pe w).mono ?_
  rintro e w' ⟨rfl, rfl⟩
  simp [bodyPostS, results, Try.results65]
  rw [← hu]
theorem recov65_no (x : Int) {b : Nat} {v : Value} {w : World} (hc : w.cell? ⟨b, 0, none⟩ = some v) (hf : w.frozen? ⟨b, 0, none⟩ = false) :
    CallsD Try.prog 65 #[.pointer (some ⟨b, 0, none⟩)] (.panicking [{ v := .iface 115 (.agg #[.int .i64 x]), recovered := false }]) w fun e u' w' =>
      e = .returned (.tuple #[]) ∧ u' = .panicking [{ v := .iface 115 (.agg #[.int .i64 x]), recovered := true }] ∧ w' = (w.alloc (.cells #[.int .i64 x] 115)).setCell ⟨b, 0, none⟩ (.int .i64 x) := by
  refine callsD_of_wpS Try.func65 rfl fun c₀ cs hu => ?_
  apply wpS_region
  simp [wpOpsS, go_sem, recoverD, hu, Try.ntmps65]
  refine (caught_misfit x hc hf).mono ?_
  rintro e w' ⟨rfl, rfl⟩
  simp [bodyPostS, results, Try.results65]
theorem cf65 (args : Array Value) (w : World) : (callFunc 65 args).run Try.prog w = .ok (.enter 65 args) w := by simp [callFunc, Try.func65, Try.f65, go_sem]
theorem recov71_ok (pe : Value) (w : World) : CallsD Try.prog 71 #[pe] .returning w fun e u' w' => e = .returned (.tuple #[]) ∧ u' = .returning ∧ w = w' := by
  refine callsD_of_wpS Try.func71 rfl fun c₀ cs hu => ?_
  apply wpS_region
  simp [wpOpsS, go_sem, recoverD, hu, Try.ntmps71]
  refine (caught_nil pe w).mono ?_
  rintro e w' ⟨rfl, rfl⟩
  simp [bodyPostS, results, Try.results71]
  rw [← hu]
theorem recov71_no (x : Int) {b : Nat} {v : Value} {w : World} (hc : w.cell? ⟨b, 0, none⟩ = some v) (hf : w.frozen? ⟨b, 0, none⟩ = false) :
    CallsD Try.prog 71 #[.pointer (some ⟨b, 0, none⟩)] (.panicking [{ v := .iface 115 (.agg #[.int .i64 x]), recovered := false }]) w fun e u' w' =>
      e = .returned (.tuple #[]) ∧ u' = .panicking [{ v := .iface 115 (.agg #[.int .i64 x]), recovered := true }] ∧ w' = (w.alloc (.cells #[.int .i64 x] 115)).setCell ⟨b, 0, none⟩ (.int .i64 x) := by
  refine callsD_of_wpS Try.func71 rfl fun c₀ cs hu => ?_
  apply wpS_region
  simp [wpOpsS, go_sem, recoverD, hu, Try.ntmps71]
  refine (caught_misfit x hc hf).mono ?_
  rintro e w' ⟨rfl, rfl⟩
  simp [bodyPostS, results, Try.results71]
theorem cf71 (args : Array Value) (w : World) : (callFunc 71 args).run Try.prog w = .ok (.enter 71 args) w := by simp [callFunc, Try.func71, Try.f71, go_sem]
theorem recov77_ok (pe : Value) (w : World) : CallsD Try.prog 77 #[pe] .returning w fun e u' w' => e = .returned (.tuple #[]) ∧ u' = .returning ∧ w = w' := by
  refine callsD_of_wpS Try.func77 rfl fun c₀ cs hu => ?_
  apply wpS_region
  simp [wpOpsS, go_sem, recoverD, hu, Try.ntmps77]
  refine (caught_nil pe w).mono ?_
  rintro e w' ⟨rfl, rfl⟩
  simp [bodyPostS, results, Try.results77]
  rw [← hu]
theorem recov77_no (x : Int) {b : Nat} {v : Value} {w : World} (hc : w.cell? ⟨b, 0, none⟩ = some v) (hf : w.frozen? ⟨b, 0, none⟩ = false) :
    CallsD Try.prog 77 #[.pointer (some ⟨b, 0, none⟩)] (.panicking [{ v := .iface 115 (.agg #[.int .i64 x]), recovered := false }]) w fun e u' w' =>
      e = .returned (.tuple #[]) ∧ u' = .panicking [{ v := .iface 115 (.agg #[.int .i64 x]), recovered := true }] ∧ w' = (w.alloc (.cells #[.int .i64 x] 115)).setCell ⟨b, 0, none⟩ (.int .i64 x) := by
  refine callsD_of_wpS Try.func77 rfl fun c₀ cs hu => ?_
  apply wpS_region
  simp [wpOpsS, go_sem, recoverD, hu, Try.ntmps77]
  refine (caught_misfit x hc hf).mono ?_
  rintro e w' ⟨rfl, rfl⟩
  simp [bodyPostS, results, Try.results77]
theorem cf77 (args : Array Value) (w : World) : (callFunc 77 args).run Try.prog w = .ok (.enter 77 args) w := by simp [callFunc, Try.func77, Try.f77, go_sem]
theorem recov79_ok (pe : Value) (w : World) : CallsD Try.prog 79 #[pe] .returning w fun e u' w' => e = .returned (.tuple #[]) ∧ u' = .returning ∧ w = w' := by
  refine callsD_of_wpS Try.func79 rfl fun c₀ cs hu => ?_
  apply wpS_region
  simp [wpOpsS, go_sem, recoverD, hu, Try.ntmps79]
  refine (caught_nil pe w).mono ?_
  rintro e w' ⟨rfl, rfl⟩
  simp [bodyPostS, results, Try.results79]
  rw [← hu]
theorem recov79_no (x : Int) {b : Nat} {v : Value} {w : World} (hc : w.cell? ⟨b, 0, none⟩ = some v) (hf : w.frozen? ⟨b, 0, none⟩ = false) :
    CallsD Try.prog 79 #[.pointer (some ⟨b, 0, none⟩)] (.panicking [{ v := .iface 115 (.agg #[.int .i64 x]), recovered := false }]) w fun e u' w' =>
      e = .returned (.tuple #[]) ∧ u' = .panicking [{ v := .iface 115 (.agg #[.int .i64 x]), recovered := true }] ∧ w' = (w.alloc (.cells #[.int .i64 x] 115)).setCell ⟨b, 0, none⟩ (.int .i64 x) := by
  refine callsD_of_wpS Try.func79 rfl fun c₀ cs hu => ?_
  apply wpS_region
  simp [wpOpsS, go_sem, recoverD, hu, Try.ntmps79]
  refine (caught_misfit x hc hf).mono ?_
  rintro e w' ⟨rfl, rfl⟩
  simp [bodyPostS, results, Try.results79]
theorem cf79 (args : Array Value) (w : World) : (callFunc 79 args).run Try.prog w = .ok (.enter 79 args) w := by simp [callFunc, Try.func79, Try.f79, go_sem]
theorem recov80_ok (pe : Value) (w : World) : CallsD Try.prog 80 #[pe] .returning w fun e u' w' => e = .returned (.tuple #[]) ∧ u' = .returning ∧ w = w' := by
  refine callsD_of_wpS Try.func80 rfl fun c₀ cs hu => ?_
  apply wpS_region
  simp [wpOpsS, go_sem, recoverD, hu, Try.ntmps80]
  refine (caught_nil pe w).mono ?_
  rintro e w' ⟨rfl, rfl⟩
  simp [bodyPostS, results, Try.results80]
  rw [← hu]
theorem recov80_no (x : Int) {b : Nat} {v : Value} {w : World} (hc : w.cell? ⟨b, 0, none⟩ = some v) (hf : w.frozen? ⟨b, 0, none⟩ = false) :
    CallsD Try.prog 80 #[.pointer (some ⟨b, 0, none⟩)] (.panicking [{ v := .iface 115 (.agg #[.int .i64 x]), recovered := false }]) w fun e u' w' =>
      e = .returned (.tuple #[]) ∧ u' = .panicking [{ v := .iface 115 (.agg #[.int .i64 x]), recovered := true }] ∧ w' = (w.alloc (.cells #[.int .i64 x] 115)).setCell ⟨b, 0, none⟩ (.int .i64 x) := by
  refine callsD_of_wpS Try.func80 rfl fun c₀ cs hu => ?_
  apply wpS_region
  simp [wpOpsS, go_sem, recoverD, hu, Try.ntmps80]
  refine (caught_misfit x hc hf).mono ?_
  rintro e w' ⟨rfl, rfl⟩
  simp [bodyPostS, results, Try.results80]
theorem cf80 (args : Array Value) (w : World) : (callFunc 80 args).run Try.prog w = .ok (.enter 80 args) w := by simp [callFunc, Try.func80, Try.f80, go_sem]
theorem recov81_ok (pe : Value) (w : World) : CallsD Try.prog 81 #[pe] .returning w fun e u' w' => e = .returned (.tuple #[]) ∧ u' = .returning ∧ w = w' := by
  refine callsD_of_wpS Try.func81 rfl fun c₀ cs hu => ?_
  apply wpS_region
  simp [wpOpsS, go_sem, recoverD, hu, Try.ntmps81]
  refine (caught_nil pe w).mono ?_
  rintro e w' ⟨rfl, rfl⟩
  simp [bodyPostS, results, Try.results81]
  rw [← hu]
theorem recov81_no (x : Int) {b : Nat} {v : Value} {w : World} (hc : w.cell? ⟨b, 0, none⟩ = some v) (hf : w.frozen? ⟨b, 0, none⟩ = false) :
    CallsD Try.prog 81 #[.pointer (some ⟨b, 0, none⟩)] (.panicking [{ v := .iface 115 (.agg #[.int .i64 x]), recovered := false }]) w fun e u' w' =>
      e = .returned (.tuple #[]) ∧ u' = .panicking [{ v := .iface 115 (.agg #[.int .i64 x]), recovered := true }] ∧ w' = (w.alloc (.cells #[.int .i64 x] 115)).setCell ⟨b, 0, none⟩ (.int .i64 x) := by
  refine callsD_of_wpS Try.func81 rfl fun c₀ cs hu => ?_
  apply wpS_region
  simp [wpOpsS, go_sem, recoverD, hu, Try.ntmps81]
  refine (caught_misfit x hc hf).mono ?_
  rintro e w' ⟨rfl, rfl⟩
  simp [bodyPostS, results, Try.results81]
theorem cf81 (args : Array Value) (w : World) : (callFunc 81 args).run Try.prog w = .ok (.enter 81 args) w := by simp [callFunc, Try.func81, Try.f81, go_sem]

/-- A print by value; a slice's array holds these prints; prints by value. -/
abbrev Prt.arr (c : Prt) : Array Value := #[.int .i64 c.slo, .int .i64 c.shi, .int .i64 c.wlo, .int .i64 c.whi, .int .i64 c.marks]
abbrev Prt.v (c : Prt) : Value := .agg c.arr
def IsPrts (w : World) (a : Option Addr) (l : List Prt) : Prop :=
  ∀ i, i < l.length → ∃ b off, a = some ⟨b, off, none⟩ ∧ w.cell? ⟨b, off + i * 5, none⟩ = some (.int .i64 (gp l i).slo) ∧ w.cell? ⟨b, off + i * 5 + 1, none⟩ = some (.int .i64 (gp l i).shi) ∧
    w.cell? ⟨b, off + i * 5 + 2, none⟩ = some (.int .i64 (gp l i).wlo) ∧ w.cell? ⟨b, off + i * 5 + 3, none⟩ = some (.int .i64 (gp l i).whi) ∧ w.cell? ⟨b, off + i * 5 + 4, none⟩ = some (.int .i64 (gp l i).marks)
theorem IsPrts.mono {w w' : World} {a : Option Addr} {l : List Prt} (h : IsPrts w a l) (hb : Below w.heap.size w w') : IsPrts w' a l := fun i hi => by
  obtain ⟨b, off, ha, h0, h1, h2, h3, h4⟩ := h i hi
  exact ⟨b, off, ha, cell_stays hb h0, cell_stays hb h1, cell_stays hb h2, cell_stays hb h3, cell_stays hb h4⟩
abbrev Prs.cells (p : Prs) (a : Option Addr) (cap : Nat) : Array Value := #[.slice a p.cards.length cap, .int .i64 p.llo, .int .i64 p.lhi, .int .i64 p.olo, .int .i64 p.ohi]
abbrev Prs.v (p : Prs) (a : Option Addr) (cap : Nat) : Value := .agg (p.cells a cap)

set_option maxHeartbeats 400000 in
theorem isSpan_any (lo hi : Int) (w : World) : Calls Try.prog 115 #[.agg #[.int .i64 lo, .int .i64 hi]] w fun e w' => e = .returned (.bool (spanOk lo hi)) ∧ Below w.heap.size w w' := by
  have hb : Below w.heap.size w (w.alloc (.cells #[.int .i64 lo, .int .i64 hi] 24)) := (Below.refl _ w).alloc (Nat.le_refl _) _
  have HB := Lib.hid hb
  clear hb
  unfold spanOk
  go_enter Try.func115, Try.ntmps115
  by_cases h1 : 0 ≤ lo <;> by_cases h2 : lo ≤ hi
  all_goals
    go_wp2
    go_ret
    refine ⟨ret_bool ?_, HB.out⟩
    first | (simp_all; done) | (simp_all; omega)

end Go.Proofs.Ytnfhlbmapfoifaa

namespace Go.Proofs.Ytnfhlbmapfoifaa
open Go.RowKit
set_option linter.unusedVariables false

theorem prt_cells {w : World} {b : Nat} {c : Prt} {t : TypeId} (hq : w.heap[b]? = some (.cells c.arr t (0, 0))) : w.cell? ⟨b, 0, none⟩ = some (.int .i64 c.slo) ∧ w.cell? ⟨b, 1, none⟩ = some (.int .i64 c.shi) ∧
    w.cell? ⟨b, 2, none⟩ = some (.int .i64 c.wlo) ∧ w.cell? ⟨b, 3, none⟩ = some (.int .i64 c.whi) ∧ w.cell? ⟨b, 4, none⟩ = some (.int .i64 c.marks) := by
  refine ⟨?_, ?_, ?_, ?_, ?_⟩ <;> (rw [cell_of_heap hq]; rfl)
set_option maxRecDepth 100000 in
set_option maxHeartbeats 1000000 in
theorem bad_any (c : Prt) (w : World) : Calls Try.prog 114 #[c.v] w fun e w' => e = .returned (.bool (!c.ok)) ∧ Below w.heap.size w w' := by
  have hb : Below w.heap.size w (w.alloc (.cells c.arr 54)) := (Below.refl _ w).alloc (Nat.le_refl _) _
  have hq := World.alloc_heap_new w (.cells c.arr 54)
  have HB := Lib.hid (And.intro hb hq)
  clear hb hq
  unfold Prt.ok
  go_enter Try.func114, Try.ntmps114
  go_wp2_with fail
  obtain ⟨hb, hq⟩ := HB.out
  revert hb hq
  generalize (w.alloc (.cells c.arr 54)) = w1
  intro hb hq
  refine (isSpan_any c.slo c.shi _).mono ?_
  rintro e w2 ⟨rfl, hb2⟩
  have hB2 := bst hb hb2 (Nat.le_refl _)
  have hq2 := (hb2.block _ (heap_lt hq)).trans hq
  obtain ⟨k0, k1, k2, k3, k4⟩ := prt_cells hq2
  cases h1 : spanOk c.slo c.shi
  · go_wp2_with fail
    all_goals try refine ⟨fun _ _ => trivial, ?_⟩
    all_goals try go_wp2_with fail
    go_ret
    exact ⟨ret_bool (by simp [h1]), hB2⟩
  · clear hq hb hb2
    go_wp2_with fail
    refine (isSpan_any c.wlo c.whi _).mono ?_
    rintro e w3 ⟨rfl, hb3⟩
    have hB3 := bst hB2 hb3 (Nat.le_refl _)
    have hq3 := (hb3.block _ (heap_lt hq2)).trans hq2
    clear k0 k1 k2 k3 k4
    obtain ⟨k0, k1, k2, k3, k4⟩ := prt_cells hq3
    cases h2 : spanOk c.wlo c.whi
    · go_wp2_with fail
      all_goals try refine ⟨fun _ _ => trivial, ?_⟩
      all_goals try go_wp2_with fail
      go_ret
      exact ⟨ret_bool (by simp [h1, h2]), hB3⟩
    · go_wp2_with (go_at_call 96; refine (within_any _ _ _ _).mono ?_; rintro e w' ⟨rfl, rfl⟩)
      go_ret
      exact ⟨ret_bool (by simp [h1, h2]), hB3⟩

/-- The first print, from number k on, that is not valid; -1: none. -/
def badP : List Prt → Nat → Int
  | [], _ => -1
  | c :: r, k => if c.ok then badP r (k + 1) else (k : Int)
theorem badP_ge : ∀ (l : List Prt) (k : Nat), decide (0 ≤ badP l k) = !l.all Prt.ok
  | [], k => by simp [badP]
  | x :: r, k => by
    unfold badP
    cases h : x.ok
    · simp [h]
    · simp [h, badP_ge r (k + 1)]
theorem badP_step {l : List Prt} {k : Nat} (hk : k < l.length) : badP (l.drop k) k = if (gp l k).ok then badP (l.drop (k + 1)) (k + 1) else (k : Int) := by
  rw [List.drop_eq_getElem_cons hk]
  have : gp l k = l[k] := by simp [gp, hk]
  rw [this]
  rfl
set_option maxHeartbeats 1000000 in
theorem indexPrt_any {l : List Prt} {a : Option Addr} {cap : Nat} {w : World} (ha : IsPrts w a l) (hn : l.length ≤ 16) :
    Calls Try.prog 120 #[.slice a l.length cap, .func (.func 114) #[] #[]] w fun e w' => e = .returned (.int .i64 (badP l 0)) ∧ Below w.heap.size w w' := by
  go_enter Try.func120, Try.ntmps120
  go_wp2
  go_loopw [4, 5, 8] (fun _ _ i wr => ∃ k : Nat, k ≤ l.length ∧ i = .int .i64 k ∧ Hid (badP l 0 = badP (l.drop k) k) ∧ Below w.heap.size w wr) (fun _ _ i _ => l.length - (intOf i).toNat)
  case atStart => exact ⟨0, by omega, rfl, rfl, Below.refl _ _⟩
  case round =>
    obtain ⟨k, hkn, rfl, HL, hbr⟩ := hrel
    by_cases hlt : k < l.length
    · obtain ⟨b, off, rfl, l0, l1, l2, l3, l4⟩ := (ha.mono hbr) k hlt
      have HB := Lib.hid (badP_step hlt)
      go_wp2_with fail
      refine (bad_any (gp l k) _).mono ?_
      rintro e w2 ⟨rfl, hb2⟩
      cases hok : (gp l k).ok
      · go_wp2
        go_ret
        refine ⟨ret_int ?_, hbr.trans (hb2.mono hbr.size)⟩
        rw [HL.out, HB.out, hok]; rfl
      · go_wp2
        go_roundw
        case rel => exact ⟨k + 1, by omega, by go_num, by rw [Hid, HL.out, HB.out, hok]; rfl, hbr.trans (hb2.mono hbr.size)⟩
        case measure => simp [intOf]; omega
    · go_wp2
      go_ret
      refine ⟨ret_int ?_, hbr⟩
      rw [HL.out, List.drop_of_length_le (by omega)]
      rfl
theorem containsPrt_any {l : List Prt} {a : Option Addr} {cap : Nat} {w : World} (ha : IsPrts w a l) (hn : l.length ≤ 16) :
    Calls Try.prog 116 #[.slice a l.length cap, .func (.func 114) #[] #[]] w fun e w' => e = .returned (.bool (!l.all Prt.ok)) ∧ Below w.heap.size w w' := by
  have HG := Lib.hid (badP_ge l 0)
  have hcall := indexPrt_any (cap := cap) ha hn
  clear ha
  go_enter Try.func116, Try.ntmps116
  go_wp2_with fail
  refine hcall.mono ?_
  rintro e w2 ⟨rfl, hb2⟩
  go_wp2
  go_ret
  exact ⟨ret_bool HG.out, hb2⟩
theorem prs_cells {w : World} {b : Nat} {p : Prs} {a : Option Addr} {cap : Nat} {t : TypeId} (hq : w.heap[b]? = some (.cells (p.cells a cap) t (0, 0))) : w.cell? ⟨b, 0, none⟩ = some (.slice a p.cards.length cap) ∧ w.cell? ⟨b, 1, none⟩ = some (.int .i64 p.llo) ∧
    w.cell? ⟨b, 2, none⟩ = some (.int .i64 p.lhi) ∧ w.cell? ⟨b, 3, none⟩ = some (.int .i64 p.olo) ∧ w.cell? ⟨b, 4, none⟩ = some (.int .i64 p.ohi) := by
  refine ⟨?_, ?_, ?_, ?_, ?_⟩ <;> (rw [cell_of_heap hq]; rfl)
set_option maxRecDepth 100000 in
set_option maxHeartbeats 2000000 in
theorem isPrints_any {p : Prs} {a : Option Addr} {cap : Nat} {w : World} (ha : IsPrts w a p.cards) (hn : p.cards.length ≤ 16) :
    Calls Try.prog 91 #[p.v a cap] w fun e w' => e = .returned (.bool p.valid) ∧ Below w.heap.size w w' := by
  have hb : Below w.heap.size w (w.alloc (.cells (p.cells a cap) 26)) := (Below.refl _ w).alloc (Nat.le_refl _) _
  have hq := World.alloc_heap_new w (.cells (p.cells a cap) 26)
  have HB := Lib.hid (And.intro hb (And.intro hq (ha.mono hb)))
  clear hb hq ha
  unfold Prs.valid
  go_enter Try.func91, Try.ntmps91
  by_cases h5 : p.cards.length ≤ 5
  · have h5' : decide (p.cards.length ≤ 5) = true := by simpa using h5
    go_upto_region 2 with fail
    obtain ⟨hb, hq, ha⟩ := HB.out
    revert hb hq ha
    generalize (w.alloc (.cells (p.cells a cap) 26)) = w1
    intro hb hq ha
    obtain ⟨k0, k1, k2, k3, k4⟩ := prs_cells hq
    go_wp2_with fail
    refine (containsPrt_any ha hn).mono ?_
    rintro e w2 ⟨rfl, hb2⟩
    have hB2 := bst hb hb2 (Nat.le_refl _)
    have hq2 := (hb2.block _ (heap_lt hq)).trans hq
    clear k0 k1 k2 k3 k4 ha
    obtain ⟨k0, k1, k2, k3, k4⟩ := prs_cells hq2
    cases h1 : p.cards.all Prt.ok
    · go_wp2_with fail
      all_goals try refine ⟨fun _ _ => trivial, ?_⟩
      all_goals try go_wp2_with fail
      go_ret
      exact ⟨ret_bool (by rw [h5', h1]; rfl), hB2⟩
    · go_wp2_with fail
      refine (isSpan_any p.llo p.lhi _).mono ?_
      rintro e w3 ⟨rfl, hb3⟩
      have hB3 := bst hB2 hb3 (Nat.le_refl _)
      have hq3 := (hb3.block _ (heap_lt hq2)).trans hq2
      clear k0 k1 k2 k3 k4
      obtain ⟨k0, k1, k2, k3, k4⟩ := prs_cells hq3
      cases h2 : spanOk p.llo p.lhi
      · go_wp2_with fail
        all_goals try refine ⟨fun _ _ => trivial, ?_⟩
        all_goals try go_wp2_with fail
        go_ret
        exact ⟨ret_bool (by rw [h5', h1, h2]; rfl), hB3⟩
      · go_wp2_with fail
        refine (isSpan_any p.olo p.ohi _).mono ?_
        rintro e w4 ⟨rfl, hb4⟩
        have hB4 := bst hB3 hb4 (Nat.le_refl _)
        go_wp2_with fail
        go_ret
        exact ⟨ret_bool (by rw [h5', h1, h2]; rfl), hB4⟩
  · have h5' : decide (p.cards.length ≤ 5) = false := by simpa using h5
    go_upto_region 2 with fail
    obtain ⟨hb, hq, ha⟩ := HB.out
    revert hb hq ha
    generalize (w.alloc (.cells (p.cells a cap) 26)) = w1
    intro hb hq ha
    obtain ⟨k0, k1, k2, k3, k4⟩ := prs_cells hq
    go_wp2_with fail
    all_goals try refine ⟨fun _ _ => trivial, ?_⟩
    all_goals try go_wp2_with fail
    go_ret
    exact ⟨rfl, hb⟩
end Go.Proofs.Ytnfhlbmapfoifaa

namespace Go.Proofs.Ytnfhlbmapfoifaa
open Go.RowKit
set_option linter.unusedVariables false

abbrev lossA (p : Prs) : Array Value := #[.func (.func 92) #[] #[], .int .i64 p.llo, .int .i64 p.lhi, .func (.func 93) #[] #[], .int .i64 p.olo, .int .i64 p.ohi]
abbrev pileA (p : Prs) (a : Option Addr) (cap g : Nat) : Array Value := #[.slice a p.cards.length cap, .int .i64 p.llo, .int .i64 p.lhi, .int .i64 p.olo, .int .i64 p.ohi, .slice (some ⟨g, 0, none⟩) 2 2]
/-- Block bp holds prints that are looked at; block g how they become less. -/
structure PileP (w : World) (bp : Nat) (p : Prs) (a : Option Addr) (cap g : Nat) : Prop where
  pile : w.heap[bp]? = some (.cells (pileA p a cap g) 123 (0, 0))
  loss : w.heap[g]? = some (.cells (lossA p) 120 (0, 0))
  ha : IsPrts w a p.cards
theorem PileP.mono {w w' : World} {bp : Nat} {p : Prs} {a : Option Addr} {cap g : Nat} (h : PileP w bp p a cap g) (hb : Below w.heap.size w w') : PileP w' bp p a cap g :=
  ⟨(hb.block _ (heap_lt h.pile)).trans h.pile, (hb.block _ (heap_lt h.loss)).trans h.loss, h.ha.mono hb⟩
theorem PileP.cells {w : World} {bp : Nat} {p : Prs} {a : Option Addr} {cap g : Nat} (h : PileP w bp p a cap g) :
    w.cell? ⟨bp, 0, none⟩ = some (.slice a p.cards.length cap) ∧ w.cell? ⟨bp, 1, none⟩ = some (.int .i64 p.llo) ∧ w.cell? ⟨bp, 2, none⟩ = some (.int .i64 p.lhi) ∧ w.cell? ⟨bp, 3, none⟩ = some (.int .i64 p.olo) ∧ w.cell? ⟨bp, 4, none⟩ = some (.int .i64 p.ohi) ∧ w.cell? ⟨bp, 5, none⟩ = some (.slice (some ⟨g, 0, none⟩) 2 2) := by
  have hq := h.pile
  refine ⟨?_, ?_, ?_, ?_, ?_, ?_⟩ <;> (rw [cell_of_heap hq]; rfl)
theorem PileP.lcells {w : World} {bp : Nat} {p : Prs} {a : Option Addr} {cap g : Nat} (h : PileP w bp p a cap g) :
    w.cell? ⟨g, 0, none⟩ = some (.func (.func 92) #[] #[]) ∧ w.cell? ⟨g, 1, none⟩ = some (.int .i64 p.llo) ∧ w.cell? ⟨g, 2, none⟩ = some (.int .i64 p.lhi) ∧ w.cell? ⟨g, 3, none⟩ = some (.func (.func 93) #[] #[]) ∧ w.cell? ⟨g, 4, none⟩ = some (.int .i64 p.olo) ∧ w.cell? ⟨g, 5, none⟩ = some (.int .i64 p.ohi) := by
  have hq := h.loss
  refine ⟨?_, ?_, ?_, ?_, ?_, ?_⟩ <;> (rw [cell_of_heap hq]; rfl)

set_option maxRecDepth 100000 in
set_option maxHeartbeats 1000000 in
theorem open_yes {p : Prs} {a : Option Addr} {cap : Nat} {w : World} (ha : IsPrts w a p.cards) (hn : p.cards.length ≤ 16) (hv : p.valid = true) :
    Calls Try.prog 51 #[p.v a cap, .bool true] w fun e w' => ∃ bp g, e = .returned (.pointer (some ⟨bp, 0, none⟩)) ∧ w.heap.size ≤ bp ∧ PileP w' bp p a cap g ∧ Below w.heap.size w w' := by
  have hb : Below w.heap.size w (w.alloc (.cells (p.cells a cap) 26)) := (Below.refl _ w).alloc (Nat.le_refl _) _
  have hq := World.alloc_heap_new w (.cells (p.cells a cap) 26)
  have HB := Lib.hid (And.intro hb (And.intro hq (ha.mono hb)))
  clear hb hq ha
  go_enter Try.func51, Try.ntmps51
  go_upto_region 1 with fail
  obtain ⟨hb, hq, ha⟩ := HB.out
  revert hb hq ha
  generalize (w.alloc (.cells (p.cells a cap) 26)) = w1
  intro hb hq ha
  obtain ⟨k0, k1, k2, k3, k4⟩ := prs_cells hq
  go_wp2_with fail
  refine (isPrints_any ha hn).mono ?_
  rintro e w2 ⟨rfl, hb2⟩
  rw [hv]
  have hB2 := bst hb hb2 (Nat.le_refl _)
  have hq2 := (hb2.block _ (heap_lt hq)).trans hq
  have ha2 := ha.mono hb2
  clear k0 k1 k2 k3 k4 ha
  obtain ⟨k0, k1, k2, k3, k4⟩ := prs_cells hq2
  go_wp2_with (go_at_call 67; refine (need_yes _ _).mono ?_; rintro e w' ⟨rfl, rfl⟩)
  go_ret
  have hb3 : Below w2.heap.size w2 (w2.alloc (.cells (lossA p) 120)) := (Below.refl _ w2).alloc (Nat.le_refl _) _
  have q3 := World.alloc_heap_new w2 (.cells (lossA p) 120)
  have hb4 : Below (w2.alloc (.cells (lossA p) 120)).heap.size (w2.alloc (.cells (lossA p) 120)) ((w2.alloc (.cells (lossA p) 120)).alloc (.cells (pileA p a cap w2.heap.size) 123)) := (Below.refl _ _).alloc (Nat.le_refl _) _
  have q4 := World.alloc_heap_new (w2.alloc (.cells (lossA p) 120)) (.cells (pileA p a cap w2.heap.size) 123)
  rw [World.size_alloc] at q4
  refine ⟨_, w2.heap.size, rfl, by have := hB2.size; omega, ⟨q4, (hb4.block _ (heap_lt q3)).trans q3, (ha2.mono hb3).mono hb4⟩, hB2.trans ((hb3.trans (hb4.mono (by simp))).mono hB2.size)⟩
set_option maxRecDepth 100000 in
set_option maxHeartbeats 1000000 in
theorem open_no {p : Prs} {a : Option Addr} {cap : Nat} {w : World} (ha : IsPrts w a p.cards) (hn : p.cards.length ≤ 16) (ok : Bool) (hv : openE p ok ≠ 0) :
    Calls Try.prog 51 #[p.v a cap, .bool ok] w fun e w' => e = .panicked [{ v := .iface 115 (.agg #[.int .i64 (openE p ok)]), recovered := false }] ∧ Below w.heap.size w w' := by
  have hb : Below w.heap.size w (w.alloc (.cells (p.cells a cap) 26)) := (Below.refl _ w).alloc (Nat.le_refl _) _
  have hq := World.alloc_heap_new w (.cells (p.cells a cap) 26)
  have HB := Lib.hid (And.intro hb (And.intro hq (ha.mono hb)))
  have HV := Lib.hid hv
  clear hb hq ha hv
  go_enter Try.func51, Try.ntmps51
  go_upto_region 1 with fail
  obtain ⟨hb, hq, ha⟩ := HB.out
  revert hb hq ha
  generalize (w.alloc (.cells (p.cells a cap) 26)) = w1
  intro hb hq ha
  obtain ⟨k0, k1, k2, k3, k4⟩ := prs_cells hq
  go_wp2_with fail
  refine (isPrints_any ha hn).mono ?_
  rintro e w2 ⟨rfl, hb2⟩
  have hB2 := bst hb hb2 (Nat.le_refl _)
  cases hv : p.valid
  · have HE : Hid (openE p ok = 1) := by unfold Hid openE; rw [hv]; rfl
    go_wp2_with (go_at_call 67; refine (need_no _ _).mono ?_; rintro e w' ⟨rfl, rfl⟩)
    rw [HE.out]
    exact ⟨rfl, rfl, hB2⟩
  · cases ok with
    | true => exact (HV.out (by unfold openE; rw [hv]; rfl)).elim
    | false =>
      have HE : Hid (openE p false = 2) := by unfold Hid openE; rw [hv]; rfl
      clear k0 k1 k2 k3 k4
      go_wp2_with fail
      refine (need_yes _ _).mono ?_
      rintro e w' ⟨rfl, rfl⟩
      go_wp2_with fail
      refine (need_no _ _).mono ?_
      rintro e w' ⟨rfl, rfl⟩
      go_wp2_with fail
      rw [HE.out]
      exact ⟨rfl, rfl, hB2⟩
end Go.Proofs.Ytnfhlbmapfoifaa

namespace Go.Proofs.Ytnfhlbmapfoifaa
open Go.RowKit
set_option linter.unusedVariables false

/-- So many cards, each copied from another one, or from none. -/
def GoodW (n : Nat) (w : List Int) : Prop := w.length = n ∧ ∀ x ∈ w, -1 ≤ x ∧ x < n
theorem GoodW.gi {n : Nat} {w : List Int} (h : GoodW n w) {k : Nat} (hk : k < n) : -1 ≤ gi w k ∧ gi w k < n := by
  have hk' : k < w.length := by rw [h.1]; exact hk
  exact h.2 _ (by simp [Go.Proofs.Ytnfhlbmapfoifaa.gi, hk'])
theorem upW_rng {n : Nat} {w : List Int} (h : GoodW n w) : ∀ (m : Nat) (k : Int), -1 ≤ k → k < n → -1 ≤ upW w m k ∧ upW w m k < n
  | 0, k, h0, h1 => ⟨h0, h1⟩
  | m + 1, k, h0, h1 => by
    unfold upW
    split
    · exact upW_rng h m _ (by omega) (by omega)
    · have := h.gi (k := k.toNat) (by omega)
      exact upW_rng h m _ this.1 this.2
/-- One step more at the end. -/
theorem upW_snoc (w : List Int) : ∀ (m : Nat) (k : Int), upW w (m + 1) k = if upW w m k = -1 then -1 else gi w (upW w m k).toNat
  | 0, k => rfl
  | m + 1, k => by
    have := upW_snoc w m (if k = -1 then -1 else gi w k.toNat)
    rw [show upW w (m + 1 + 1) k = upW w (m + 1) (if k = -1 then -1 else gi w k.toNat) from rfl, this]
    rfl
theorem roundB_false {w : List Int} : roundB w = false ↔ ∀ c, c < w.length → upW w w.length (c : Int) = -1 := by
  unfold roundB
  rw [List.any_eq_false]
  constructor
  · intro h c hc
    have := h c (List.mem_range.2 hc)
    simpa using this
  · intro h c hc
    simpa using h c (List.mem_range.1 hc)
theorem roundB_true {w : List Int} {c : Nat} (hc : c < w.length) (h : upW w w.length (c : Int) ≠ -1) : roundB w = true :=
  List.any_eq_true.2 ⟨c, List.mem_range.2 hc, by simpa using h⟩

set_option maxHeartbeats 1000000 in
theorem round_any {n : Nat} {wl : List Int} (hw : GoodW n wl) (hn : n ≤ 5) {a : Option Addr} {cap : Nat} {w : World} (ha : IsInts w a wl) :
    Calls Try.prog 110 #[.slice a wl.length cap] w fun e w' => e = .returned (.bool (roundB wl)) ∧ w = w' := by
  have hl := hw.1
  have HL := Lib.hid hl
  have hl5 : wl.length ≤ 5 := by omega
  clear hl
  go_enter Try.func110, Try.ntmps110
  go_wp2
  go_loop [2, 7] (fun r i => ∃ k : Nat, k ≤ wl.length ∧ i = .int .i64 k ∧ Hid (∀ c, c < k → upW wl wl.length (c : Int) = -1)) (fun _ i => wl.length - (intOf i).toNat)
  case atStart => exact ⟨0, by omega, rfl, fun c hc => by omega⟩
  case round =>
    obtain ⟨k, hk, rfl, HK⟩ := hrel
    by_cases hlt : k < wl.length
    · go_wp2
      go_loop [4, 13] (fun q j => ∃ m : Nat, m ≤ wl.length ∧ j = .int .i64 m ∧ q = .int .i64 (upW wl m (k : Int))) (fun _ j => wl.length - (intOf j).toNat)
      case atStart => exact ⟨0, by omega, rfl, rfl⟩
      case round =>
        obtain ⟨m, hm, rfl, rfl⟩ := hrel
        have hr := upW_rng hw m (k : Int) (by omega) (by have := HL.out; omega)
        have HS := Lib.hid (upW_snoc wl m (k : Int))
        obtain ⟨u, hu⟩ : ∃ u, upW wl m (k : Int) = u := ⟨_, rfl⟩
        rw [hu] at hr HS ⊢
        by_cases hml : m < wl.length
        · clear hu
          by_cases h1 : u = -1
          · subst h1
            go_wp2
            go_round
            case rel => exact ⟨m + 1, by omega, by go_num, by rw [HS.out]; rfl⟩
            case measure => simp [intOf]; omega
          · have hb : (u != -1) = true := by simpa using h1
            obtain ⟨un, rfl⟩ := Int.eq_ofNat_of_zero_le (show 0 ≤ u by omega)
            have hun : un < wl.length := by have := HL.out; omega
            have HU := Lib.hid h1
            obtain ⟨b, off, rfl, hc⟩ := ha un hun
            clear h1
            go_wp2
            go_round
            case rel => exact ⟨m + 1, by omega, by go_num, by rw [HS.out, if_neg HU.out]; rfl⟩
            case measure => simp [intOf]; omega
        · obtain rfl : m = wl.length := by omega
          have HU := Lib.hid hu
          clear hu
          by_cases h1 : u = -1
          · subst h1
            go_wp2
            go_round
            case rel => exact ⟨k + 1, by omega, by go_num, fun c hc => by
              by_cases e : c = k
              · subst e; exact HU.out
              · exact HK.out c (by omega)⟩
            case measure => simp [intOf]; omega
          · have hb : (u != -1) = true := by simpa using h1
            have H1 := Lib.hid h1
            clear h1
            go_wp2
            go_ret
            exact ⟨ret_bool (by rw [roundB_true hlt (by rw [HU.out]; exact H1.out)]), rfl⟩
    · obtain rfl : k = wl.length := by omega
      go_wp2
      go_ret
      exact ⟨ret_bool (by rw [roundB_false.2 HK.out]), rfl⟩
theorem origN_snoc (l : List Int) (x : Int) : origN (l ++ [x]) = origN l + if x = -1 then 1 else 0 := by
  unfold origN; rw [List.countP_append]; by_cases h : x = -1 <;> simp [h]
theorem take_snoc' {l : List Int} {k : Nat} (h : k < l.length) : l.take (k + 1) = l.take k ++ [gi l k] := by
  rw [List.take_succ_eq_append_getElem h]; simp [gi, h]
set_option maxHeartbeats 1000000 in
theorem originals_any {wl : List Int} (hl5 : wl.length ≤ 16) {a : Option Addr} {cap : Nat} {w : World} (ha : IsInts w a wl) :
    Calls Try.prog 55 #[.slice a wl.length cap] w fun e w' => e = .returned (.int .i64 (origN wl)) ∧ w = w' := by
  go_enter Try.func55, Try.ntmps55
  go_wp2
  go_loop [2, 7] (fun r i => ∃ k z : Nat, k ≤ wl.length ∧ i = .int .i64 k ∧ r = .int .i64 z ∧ z ≤ k ∧ Hid (z = origN (wl.take k))) (fun _ i => wl.length - (intOf i).toNat)
  case atStart => exact ⟨0, 0, by omega, rfl, rfl, by omega, rfl⟩
  case round =>
    obtain ⟨k, z, hk, rfl, rfl, hz, HZ⟩ := hrel
    by_cases hlt : k < wl.length
    · obtain ⟨b, off, rfl, hc⟩ := ha k hlt
      have HS : Hid (origN (wl.take (k + 1)) = origN (wl.take k) + if gi wl k = -1 then 1 else 0) := by rw [Hid, take_snoc' hlt, origN_snoc]
      by_cases h1 : gi wl k = -1
      · have hb : (gi wl k == -1) = true := by simpa using h1
        have H1 := Lib.hid h1
        clear h1
        go_wp2
        go_round
        case rel => exact ⟨k + 1, z + 1, by omega, by go_num, by go_num, by omega, by rw [Hid, HS.out, if_pos H1.out, HZ.out]⟩
        case measure => simp [intOf]; omega
      · have hb : (gi wl k == -1) = false := by simpa using h1
        have H1 := Lib.hid h1
        clear h1
        go_wp2
        go_round
        case rel => exact ⟨k + 1, z, by omega, by go_num, rfl, by omega, by have := HZ.out; rw [Hid, HS.out, if_neg H1.out]; omega⟩
        case measure => simp [intOf]; omega
    · obtain rfl : k = wl.length := by omega
      rw [Hid, List.take_length] at HZ
      go_wp2
      go_ret
      exact ⟨rfl, rfl⟩

theorem andNot_none (a b : Nat) (h : ∀ i, a.testBit i = true → b.testBit i = true) : bits .andNot .i64 (a : Int) (b : Int) = 0 := by
  have e : (BitVec.ofInt 64 (a : Int) &&& ~~~ BitVec.ofInt 64 (b : Int)) = 0#64 := by
    apply BitVec.eq_of_getLsbD_eq
    intro i hi
    rw [BitVec.ofInt_natCast, BitVec.ofInt_natCast]
    simp only [BitVec.getLsbD_and, BitVec.getLsbD_not, BitVec.getLsbD_ofNat]
    have := h i
    cases ha : a.testBit i <;> cases hb : b.testBit i <;> simp_all
  have : bits .andNot .i64 (a : Int) (b : Int) = IntKind.i64.wrap ((BitVec.ofInt 64 (a : Int) &&& ~~~ BitVec.ofInt 64 (b : Int)).toNat : Int) := rfl
  rw [this, e]
  decide
theorem andNot_some (a b : Nat) {i : Nat} (hi : i < 10) (h1 : a.testBit i = true) (h2 : b.testBit i = false) : bits .andNot .i64 (a : Int) (b : Int) ≠ 0 := by
  have e : (BitVec.ofInt 64 (a : Int) &&& ~~~ BitVec.ofInt 64 (b : Int)) ≠ 0#64 := fun e => by
    have := congrArg (fun v => v.getLsbD i) e
    simp only [BitVec.ofInt_natCast, BitVec.getLsbD_and, BitVec.getLsbD_not, BitVec.getLsbD_ofNat, h1, h2] at this
    simp at this
    omega
  have : bits .andNot .i64 (a : Int) (b : Int) = IntKind.i64.wrap ((BitVec.ofInt 64 (a : Int) &&& ~~~ BitVec.ofInt 64 (b : Int)).toNat : Int) := rfl
  rw [this]
  intro hz
  apply e
  apply BitVec.eq_of_toNat_eq
  have hlt := (BitVec.ofInt 64 (a : Int) &&& ~~~ BitVec.ofInt 64 (b : Int)).isLt
  rw [IntKind.wrap_i64] at hz
  simp only [BitVec.toNat_ofNat]
  omega
theorem marks_rng {p : Prs} (hv : p.valid = true) {k : Nat} (hk : k < p.cards.length) : 0 ≤ (gp p.cards k).marks ∧ (gp p.cards k).marks ≤ 1023 := by
  unfold Prs.valid at hv
  simp only [Bool.and_eq_true, List.all_eq_true] at hv
  have := hv.1.1.2 (p.cards[k]) (by simp)
  unfold Prt.ok inR at this
  simp only [Bool.and_eq_true, decide_eq_true_eq] at this
  simp only [gp, List.getD_eq_getElem?_getD, hk, List.getElem?_eq_getElem, Option.getD_some]
  exact this.2
theorem marked_bits {p : Prs} (hv : p.valid = true) {card frm : Nat} (hc : card < p.cards.length) (hf : frm < p.cards.length) :
    (bits .andNot .i64 (gp p.cards frm).marks (gp p.cards card).marks == 0) = markedB p card frm := by
  obtain ⟨a0, a1⟩ := marks_rng hv hf
  obtain ⟨b0, b1⟩ := marks_rng hv hc
  unfold markedB
  generalize (gp p.cards frm).marks = x at *
  generalize (gp p.cards card).marks = y at *
  obtain ⟨x, rfl⟩ := Int.eq_ofNat_of_zero_le a0
  obtain ⟨y, rfl⟩ := Int.eq_ofNat_of_zero_le b0
  simp only [Int.toNat_natCast]
  by_cases h : ∀ i, x.testBit i = true → y.testBit i = true
  · have e1 : bits .andNot .i64 (x : Int) (y : Int) = 0 := andNot_none x y h
    have e2 : ((List.range 10).all fun d => !x.testBit d || y.testBit d) = true := List.all_eq_true.2 fun d _ => by
      cases hx : x.testBit d
      · rfl
      · simp [h d hx]
    rw [e1, e2]; rfl
  · have : ∃ i, x.testBit i = true ∧ y.testBit i = false := by
      apply Classical.byContradiction
      intro hno
      apply h
      intro i hi
      cases hy : y.testBit i with
      | true => rfl
      | false => exact (hno ⟨i, hi, hy⟩).elim
    obtain ⟨i, h1, h2⟩ := this
    have hi : i < 10 := by
      apply Classical.byContradiction
      intro hge
      have hge' : 10 ≤ i := by omega
      have : x < 2 ^ i := Nat.lt_of_lt_of_le (show x < 2 ^ 10 by omega) (Nat.pow_le_pow_right (by decide) hge')
      rw [Nat.testBit_lt_two_pow this] at h1
      cases h1
    have e1 : bits .andNot .i64 (x : Int) (y : Int) ≠ 0 := andNot_some x y hi h1 h2
    have e2 : ((List.range 10).all fun d => !x.testBit d || y.testBit d) = false := List.all_eq_false.2 ⟨i, List.mem_range.2 hi, by simp [h1, h2]⟩
    rw [e2]
    simpa using e1
set_option maxRecDepth 100000 in
set_option maxHeartbeats 1000000 in
theorem marked_any {p : Prs} {a : Option Addr} {cap bp g : Nat} {w : World} (hP : PileP w bp p a cap g) (hv : p.valid = true) {card frm : Nat} (hc : card < p.cards.length) (hf : frm < p.cards.length) :
    Calls Try.prog 109 #[.pointer (some ⟨bp, 0, none⟩), .int .i64 card, .int .i64 frm] w fun e w' => e = .returned (.bool (markedB p card frm)) ∧ Below w.heap.size w w' := by
  have HM := Lib.hid (marked_bits hv hc hf)
  obtain ⟨c0, _⟩ := hP.cells
  obtain ⟨b1, o1, h1, _, _, _, _, m1⟩ := hP.ha frm hf
  obtain ⟨b2, o2, h2, _, _, _, _, m2⟩ := hP.ha card hc
  subst h1
  obtain ⟨rfl, rfl⟩ : b1 = b2 ∧ o1 = o2 := by simpa using h2
  have y0 := fun y : Aft w.heap.size w => cell_stays y.h c0
  have y1 := fun y : Aft w.heap.size w => cell_stays y.h m1
  have y2 := fun y : Aft w.heap.size w => cell_stays y.h m2
  clear c0 m1 m2 hP h2 hv
  go_enter Try.func109, Try.ntmps109
  go_wp2_with fail
  refine wp_region_aft mixed (by kernel_rfl) ?_
  repeat (go_big_quiet_step (fail))
  refine wpQuiet_nil ?_
  rintro _ ⟨y, rfl⟩
  go_wp2_with fail
  go_ret
  exact ⟨ret_bool HM.out, y.h⟩
end Go.Proofs.Ytnfhlbmapfoifaa

