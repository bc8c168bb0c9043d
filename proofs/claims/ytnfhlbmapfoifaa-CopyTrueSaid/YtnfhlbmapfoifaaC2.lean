/- The small functions of the copies: numbers, spans, a misfit that is caught; whether prints are valid. Whether prints are valid; prints that are looked at; numbers of cards. Prints that are looked at; numbers of cards. A way: whether it has a round; how many originals; whether a card comes from another one; whether marks are kept. A way: whether a card comes from another one; what can be of a card. What can be of a card, by all that come from it. What can be of a card, by all that come from it: the closure. Whether a loss can be; whether it is a way. -/
import Derived.Test.YtnfhlbmapfoifaaC1
namespace Go.Proofs.Ytnfhlbmapfoifaa
open Go.RowKit
set_option linter.unusedVariables false
theorem ret_bool {a b : Bool} (h : a = b) : Ending.returned (.bool a) = .returned (.bool b) := by rw [h]
theorem ret_int {k : IntKind} {a b : Int} (h : a = b) : Ending.returned (.int k a) = .returned (.int k b) := by rw [h]
theorem mixed : Try.prog.follows .mixedOrders = true := by kernel_rfl
theorem heap_lt {w : World} {g : Nat} {o : Obj} (h : w.heap[g]? = some o) : g < w.heap.size := (Array.getElem?_eq_some_iff.1 h).1
theorem heap_setCell_at {w : World} {b k : Nat} {c : Array Value} {t : TypeId} {f : Nat × Nat} (h : w.heap[b]? = some (.cells c t f)) (v : Value) :
    (w.setCell ⟨b, k, none⟩ v).heap[b]? = some (.cells (c.setIfInBounds k v) t f) := by
  simp [World.setCell, Array.getElem?_modify, h]
theorem cell_of_heap {w : World} {b k : Nat} {c : Array Value} {t : TypeId} {f : Nat × Nat} (h : w.heap[b]? = some (.cells c t f)) : w.cell? ⟨b, k, none⟩ = c[k]? := by simp [World.cell?, h]
theorem frozen_of_heap {w : World} {b k : Nat} {c : Array Value} {t : TypeId} (h : w.heap[b]? = some (.cells c t (0, 0))) : w.frozen? ⟨b, k, none⟩ = false := by simp [World.frozen?, h]
theorem bst {B : Nat} {w w1 w2 : World} (h : Below B w w1) (k : Below w1.heap.size w1 w2) (hB : B ≤ w.heap.size) : Below B w w2 := h.trans (k.mono (Nat.le_trans hB h.size))
theorem within_any (n lo hi : Int) (w : World) :
    Calls Try.prog 96 #[.int .i64 n, .int .i64 lo, .int .i64 hi] w fun e w' => e = .returned (.bool (inR n lo hi)) ∧ w = w' := by
  unfold inR
  go_enter Try.func96, Try.ntmps96
  go_wp2
  all_goals go_ret
  all_goals refine ⟨ret_bool ?_, rfl⟩
  · have h : lo ≤ n := by assumption
    simp [h]
  · have h : n < lo := by assumption
    simp; omega
theorem need_yes (e : Int) (w : World) : Calls Try.prog 67 #[.bool true, .int .i64 e] w fun en w' => en = .returned (.tuple #[]) ∧ w = w' := by
  go_enter Try.func67, Try.ntmps67
  go_wp2
  go_end0
  exact ⟨rfl, rfl⟩
theorem need_no (e : Int) (w : World) : Calls Try.prog 67 #[.bool false, .int .i64 e] w fun en w' => en = .panicked [{ v := .iface 115 (.agg #[.int .i64 e]), recovered := false }] ∧ w = w' := by
  go_enter Try.func67, Try.ntmps67
  go_wp2
  exact ⟨rfl, rfl, rfl⟩
theorem caught_nil (pe : Value) (w : World) : Calls Try.prog 49 #[.nilIface, pe] w fun e w' => e = .returned (.tuple #[]) ∧ w = w' := by
  go_enter Try.func49, Try.ntmps49
  go_wp2
  refine bodyPost_ret (results_none rfl _ _ _) rfl ?_
  exact ⟨rfl, rfl⟩
theorem assert115 (v : Value) (w : World) : (Instr.typeAssert (.iface 115 v) 20 115 true).run Try.prog w = .ok (.tuple #[v, .bool true]) w := by
  simp [Instr.typeAssert, run_underlying Try.underlying115, Result.andThen]
theorem caught_misfit (x : Int) {b : Nat} {v : Value} {w : World} (hc : w.cell? ⟨b, 0, none⟩ = some v) (hf : w.frozen? ⟨b, 0, none⟩ = false) :
    Calls Try.prog 49 #[.iface 115 (.agg #[.int .i64 x]), .pointer (some ⟨b, 0, none⟩)] w fun e w' => e = .returned (.tuple #[]) ∧ w' = (w.alloc (.cells #[.int .i64 x] 115)).setCell ⟨b, 0, none⟩ (.int .i64 x) := by
  have hb := lt_of_cell hc
  have ha := assert115 (.agg #[.int .i64 x])
  go_enter Try.func49, Try.ntmps49
  go_wp2
  go_end0
  refine ⟨rfl, ?_⟩
  rw [World.setCell_alloc_past _ _ _ _ hb]
theorem recov48_ok (pe : Value) (w : World) : CallsD Try.prog 48 #[pe] .returning w fun e u' w' => e = .returned (.tuple #[]) ∧ u' = .returning ∧ w = w' := by
  refine callsD_of_wpS Try.func48 rfl fun c₀ cs hu => ?_
  apply wpS_region
  simp [wpOpsS, go_sem, recoverD, hu, Try.ntmps48]
  refine (caught_nil pe w).mono ?_
  rintro e w' ⟨rfl, rfl⟩
  simp [bodyPostS, results, Try.results48]
  rw [← hu]
theorem recov48_no (x : Int) {b : Nat} {v : Value} {w : World} (hc : w.cell? ⟨b, 0, none⟩ = some v) (hf : w.frozen? ⟨b, 0, none⟩ = false) :
    CallsD Try.prog 48 #[.pointer (some ⟨b, 0, none⟩)] (.panicking [{ v := .iface 115 (.agg #[.int .i64 x]), recovered := false }]) w fun e u' w' =>
      e = .returned (.tuple #[]) ∧ u' = .panicking [{ v := .iface 115 (.agg #[.int .i64 x]), recovered := true }] ∧ w' = (w.alloc (.cells #[.int .i64 x] 115)).setCell ⟨b, 0, none⟩ (.int .i64 x) := by
  refine callsD_of_wpS Try.func48 rfl fun c₀ cs hu => ?_
  apply wpS_region
  simp [wpOpsS, go_sem, recoverD, hu, Try.ntmps48]
  refine (caught_misfit x hc hf).mono ?_
  rintro e w' ⟨rfl, rfl⟩
  simp [bodyPostS, results, Try.results48]
theorem cf48 (args : Array Value) (w : World) : (callFunc 48 args).run Try.prog w = .ok (.enter 48 args) w := by simp [callFunc, Try.func48, Try.f48, go_sem]
theorem recov62_ok (pe : Value) (w : World) : CallsD Try.prog 62 #[pe] .returning w fun e u' w' => e = .returned (.tuple #[]) ∧ u' = .returning ∧ w = w' := by
  refine callsD_of_wpS Try.func62 rfl fun c₀ cs hu => ?_
  apply wpS_region
  simp [wpOpsS, go_sem, recoverD, hu, Try.ntmps62]
  refine (caught_nil pe w).mono ?_
  rintro e w' ⟨rfl, rfl⟩
  simp [bodyPostS, results, Try.results62]
  rw [← hu]
theorem recov62_no (x : Int) {b : Nat} {v : Value} {w : World} (hc : w.cell? ⟨b, 0, none⟩ = some v) (hf : w.frozen? ⟨b, 0, none⟩ = false) :
    CallsD Try.prog 62 #[.pointer (some ⟨b, 0, none⟩)] (.panicking [{ v := .iface 115 (.agg #[.int .i64 x]), recovered := false }]) w fun e u' w' =>
      e = .returned (.tuple #[]) ∧ u' = .panicking [{ v := .iface 115 (.agg #[.int .i64 x]), recovered := true }] ∧ w' = (w.alloc (.cells #[.int .i64 x] 115)).setCell ⟨b, 0, none⟩ (.int .i64 x) := by
  refine callsD_of_wpS Try.func62 rfl fun c₀ cs hu => ?_
  apply wpS_region
  simp [wpOpsS, go_sem, recoverD, hu, Try.ntmps62]
  refine (caught_misfit x hc hf).mono ?_
  rintro e w' ⟨rfl, rfl⟩
  simp [bodyPostS, results, Try.results62]
theorem cf62 (args : Array Value) (w : World) : (callFunc 62 args).run Try.prog w = .ok (.enter 62 args) w := by simp [callFunc, Try.func62, Try.f62, go_sem]
theorem recov65_ok (pe : Value) (w : World) : CallsD Try.prog 65 #[pe] .returning w fun e u' w' => e = .returned (.tuple #[]) ∧ u' = .returning ∧ w = w' := by
  refine callsD_of_wpS Try.func65 rfl fun c₀ cs hu => ?_
  apply wpS_region
  simp [wpOpsS, go_sem, recoverD, hu, Try.ntmps65]
  refine (caught_nil pe w).mono ?_
  rintro e w' ⟨rfl, rfl⟩
  simp [bodyPostS, results, Try.results65]
  rw [← hu]
theorem recov65_no (x : Int) {b : Nat} {v : Value} {w : World} (hc : w.cell? ⟨b, 0, none⟩ = some v) (hf : w.frozen? ⟨b, 0, none⟩ = false) :
    CallsD Try.prog 65 #[.pointer (some ⟨b, 0, none⟩)] (.panicking [{ v := .iface 115 (.agg #[.int .i64 x]), recovered := false }]) w fun e u' w' =>
      e = .returned (.tuple #[]) ∧ u' = .panicking [{ v := .iface 115 (.agg #[.int .i64 x]), recovered := true }] ∧ w' = (w.alloc (.cells #[.int .i64 x] 115)).setCell ⟨b, 0, none⟩ (.int .i64 x) := by
  refine callsD_of_wpS Try.func65 rfl fun c₀ cs hu => ?_
  apply wpS_region
  simp [wpOpsS, go_sem, recoverD, hu, Try.ntmps65]
  refine (caught_misfit x hc hf).mono ?_
  rintro e w' ⟨rfl, rfl⟩
  simp [bodyPostS, results, Try.results65]
theorem cf65 (args : Array Value) (w : World) : (callFunc 65 args).run Try.prog w = .ok (.enter 65 args) w := by simp [callFunc, Try.func65, Try.f65, go_sem]
theorem recov71_ok (pe : Value) (w : World) : CallsD Try.prog 71 #[pe] .returning w fun e u' w' => e = .returned (.tuple #[]) ∧ u' = .returning ∧ w = w' := by
  refine callsD_of_wpS Try.func71 rfl fun c₀ cs hu => ?_
  apply wpS_region
  simp [wpOpsS, go_sem, recoverD, hu, Try.ntmps71]
  refine (caught_nil pe w).mono ?_
  rintro e w' ⟨rfl, rfl⟩
  simp [bodyPostS, results, Try.results71]
  rw [← hu]
theorem recov71_no (x : Int) {b : Nat} {v : Value} {w : World} (hc : w.cell? ⟨b, 0, none⟩ = some v) (hf : w.frozen? ⟨b, 0, none⟩ = false) :
    CallsD Try.prog 71 #[.pointer (some ⟨b, 0, none⟩)] (.panicking [{ v := .iface 115 (.agg #[.int .i64 x]), recovered := false }]) w fun e u' w' =>
      e = .returned (.tuple #[]) ∧ u' = .panicking [{ v := .iface 115 (.agg #[.int .i64 x]), recovered := true }] ∧ w' = (w.alloc (.cells #[.int .i64 x] 115)).setCell ⟨b, 0, none⟩ (.int .i64 x) := by
  refine callsD_of_wpS Try.func71 rfl fun c₀ cs hu => ?_
  apply wpS_region
  simp [wpOpsS, go_sem, recoverD, hu, Try.ntmps71]
  refine (caught_misfit x hc hf).mono ?_
  rintro e w' ⟨rfl, rfl⟩
  simp [bodyPostS, results, Try.results71]
theorem cf71 (args : Array Value) (w : World) : (callFunc 71 args).run Try.prog w = .ok (.enter 71 args) w := by simp [callFunc, Try.func71, Try.f71, go_sem]
theorem recov77_ok (pe : Value) (w : World) : CallsD Try.prog 77 #[pe] .returning w fun e u' w' => e = .returned (.tuple #[]) ∧ u' = .returning ∧ w = w' := by
  refine callsD_of_wpS Try.func77 rfl fun c₀ cs hu => ?_
  apply wpS_region
  simp [wpOpsS, go_sem, recoverD, hu, Try.ntmps77]
  refine (caught_nil pe w).mono ?_
  rintro e w' ⟨rfl, rfl⟩
  simp [bodyPostS, results, Try.results77]
  rw [← hu]
theorem cf77 (args : Array Value) (w : World) : (callFunc 77 args).run Try.prog w = .ok (.enter 77 args) w := by simp [callFunc, Try.func77, Try.f77, go_sem]
theorem recov79_ok (pe : Value) (w : World) : CallsD Try.prog 79 #[pe] .returning w fun e u' w' => e = .returned (.tuple #[]) ∧ u' = .returning ∧ w = w' := by
  refine callsD_of_wpS Try.func79 rfl fun c₀ cs hu => ?_
  apply wpS_region
  simp [wpOpsS, go_sem, recoverD, hu, Try.ntmps79]
  refine (caught_nil pe w).mono ?_
  rintro e w' ⟨rfl, rfl⟩
  simp [bodyPostS, results, Try.results79]
  rw [← hu]
theorem recov79_no (x : Int) {b : Nat} {v : Value} {w : World} (hc : w.cell? ⟨b, 0, none⟩ = some v) (hf : w.frozen? ⟨b, 0, none⟩ = false) :
    CallsD Try.prog 79 #[.pointer (some ⟨b, 0, none⟩)] (.panicking [{ v := .iface 115 (.agg #[.int .i64 x]), recovered := false }]) w fun e u' w' =>
      e = .returned (.tuple #[]) ∧ u' = .panicking [{ v := .iface 115 (.agg #[.int .i64 x]), recovered := true }] ∧ w' = (w.alloc (.cells #[.int .i64 x] 115)).setCell ⟨b, 0, none⟩ (.int .i64 x) := by
  refine callsD_of_wpS Try.func79 rfl fun c₀ cs hu => ?_
  apply wpS_region
  simp [wpOpsS, go_sem, recoverD, hu, Try.ntmps79]
  refine (caught_misfit x hc hf).mono ?_
  rintro e w' ⟨rfl, rfl⟩
  simp [bodyPostS, results, Try.results79]
theorem cf79 (args : Array Value) (w : World) : (callFunc 79 args).run Try.prog w = .ok (.enter 79 args) w := by simp [callFunc, Try.func79, Try.f79, go_sem]
theorem recov80_ok (pe : Value) (w : World) : CallsD Try.prog 80 #[pe] .returning w fun e u' w' => e = .returned (.tuple #[]) ∧ u' = .returning ∧ w = w' := by
  refine callsD_of_wpS Try.func80 rfl fun c₀ cs hu => ?_
  apply wpS_region
  simp [wpOpsS, go_sem, recoverD, hu, Try.ntmps80]
  refine (caught_nil pe w).mono ?_
  rintro e w' ⟨rfl, rfl⟩
  simp [bodyPostS, results, Try.results80]
  rw [← hu]
theorem recov80_no (x : Int) {b : Nat} {v : Value} {w : World} (hc : w.cell? ⟨b, 0, none⟩ = some v) (hf : w.frozen? ⟨b, 0, none⟩ = false) :
    CallsD Try.prog 80 #[.pointer (some ⟨b, 0, none⟩)] (.panicking [{ v := .iface 115 (.agg #[.int .i64 x]), recovered := false }]) w fun e u' w' =>
      e = .returned (.tuple #[]) ∧ u' = .panicking [{ v := .iface 115 (.agg #[.int .i64 x]), recovered := true }] ∧ w' = (w.alloc (.cells #[.int .i64 x] 115)).setCell ⟨b, 0, none⟩ (.int .i64 x) := by
  refine callsD_of_wpS Try.func80 rfl fun c₀ cs hu => ?_
  apply wpS_region
  simp [wpOpsS, go_sem, recoverD, hu, Try.ntmps80]
  refine (caught_misfit x hc hf).mono ?_
  rintro e w' ⟨rfl, rfl⟩
  simp [bodyPostS, results, Try.results80]
theorem cf80 (args : Array Value) (w : World) : (callFunc 80 args).run Try.prog w = .ok (.enter 80 args) w := by simp [callFunc, Try.func80, Try.f80, go_sem]
theorem recov81_ok (pe : Value) (w : World) : CallsD Try.prog 81 #[pe] .returning w fun e u' w' => e = .returned (.tuple #[]) ∧ u' = .returning ∧ w = w' := by
  refine callsD_of_wpS Try.func81 rfl fun c₀ cs hu => ?_
  apply wpS_region
  simp [wpOpsS, go_sem, recoverD, hu, Try.ntmps81]
  refine (caught_nil pe w).mono ?_
  rintro e w' ⟨rfl, rfl⟩
  simp [bodyPostS, results, Try.results81]
  rw [← hu]
theorem recov81_no (x : Int) {b : Nat} {v : Value} {w : World} (hc : w.cell? ⟨b, 0, none⟩ = some v) (hf : w.frozen? ⟨b, 0, none⟩ = false) :
    CallsD Try.prog 81 #[.pointer (some ⟨b, 0, none⟩)] (.panicking [{ v := .iface 115 (.agg #[.int .i64 x]), recovered := false }]) w fun e u' w' =>
      e = .returned (.tuple #[]) ∧ u' = .panicking [{ v := .iface 115 (.agg #[.int .i64 x]), recovered := true }] ∧ w' = (w.alloc (.cells #[.int .i64 x] 115)).setCell ⟨b, 0, none⟩ (.int .i64 x) := by
  refine callsD_of_wpS Try.func81 rfl fun c₀ cs hu => ?_
  apply wpS_region
  simp [wpOpsS, go_sem, recoverD, hu, Try.ntmps81]
  refine (caught_misfit x hc hf).mono ?_
  rintro e w' ⟨rfl, rfl⟩
  simp [bodyPostS, results, Try.results81]
theorem cf81 (args : Array Value) (w : World) : (callFunc 81 args).run Try.prog w = .ok (.enter 81 args) w := by simp [callFunc, Try.func81, Try.f81, go_sem]
/-- A print by value; a slice's array holds these prints; prints by value. -/
abbrev Prt.arr (c : Prt) : Array Value := #[.int .i64 c.slo, .int .i64 c.shi, .int .i64 c.wlo, .int .i64 c.whi, .int .i64 c.marks]
abbrev Prt.v (c : Prt) : Value := .agg c.arr
def IsPrts (w : World) (a : Option Addr) (l : List Prt) : Prop :=
  ∀ i, i < l.length → ∃ b off, a = some ⟨b, off, none⟩ ∧ w.cell? ⟨b, off + i * 5, none⟩ = some (.int .i64 (gp l i).slo) ∧ w.cell? ⟨b, off + i * 5 + 1, none⟩ = some (.int .i64 (gp l i).shi) ∧
    w.cell? ⟨b, off + i * 5 + 2, none⟩ = some (.int .i64 (gp l i).wlo) ∧ w.cell? ⟨b, off + i * 5 + 3, none⟩ = some (.int .i64 (gp l i).whi) ∧ w.cell? ⟨b, off + i * 5 + 4, none⟩ = some (.int .i64 (gp l i).marks)
theorem IsPrts.mono {w w' : World} {a : Option Addr} {l : List Prt} (h : IsPrts w a l) (hb : Below w.heap.size w w') : IsPrts w' a l := fun i hi => by
  obtain ⟨b, off, ha, h0, h1, h2, h3, h4⟩ := h i hi
  exact ⟨b, off, ha, cell_stays hb h0, cell_stays hb h1, cell_stays hb h2, cell_stays hb h3, cell_stays hb h4⟩
abbrev Prs.cells (p : Prs) (a : Option Addr) (cap : Nat) : Array Value := #[.slice a p.cards.length cap, .int .i64 p.llo, .int .i64 p.lhi, .int .i64 p.olo, .int .i64 p.ohi]
abbrev Prs.v (p : Prs) (a : Option Addr) (cap : Nat) : Value := .agg (p.cells a cap)
set_option maxHeartbeats 400000 in
theorem isSpan_any (lo hi : Int) (w : World) : Calls Try.prog 115 #[.agg #[.int .i64 lo, .int .i64 hi]] w fun e w' => e = .returned (.bool (spanOk lo hi)) ∧ Below w.heap.size w w' := by
  have hb : Below w.heap.size w (w.alloc (.cells #[.int .i64 lo, .int .i64 hi] 24)) := (Below.refl _ w).alloc (Nat.le_refl _) _
  have HB := Lib.hid hb
  clear hb
  unfold spanOk
  go_enter Try.func115, Try.ntmps115
  by_cases h1 : 0 ≤ lo <;> by_cases h2 : lo ≤ hi
  all_goals
    go_wp2
    go_ret
    refine ⟨ret_bool ?_, HB.out⟩
    first | (simp_all; done) | (simp_all; omega)
end Go.Proofs.Ytnfhlbmapfoifaa
namespace Go.Proofs.Ytnfhlbmapfoifaa
open Go.RowKit
set_option linter.unusedVariables false
theorem prt_cells {w : World} {b : Nat} {c : Prt} {t : TypeId} (hq : w.heap[b]? = some (.cells c.arr t (0, 0))) : w.cell? ⟨b, 0, none⟩ = some (.int .i64 c.slo) ∧ w.cell? ⟨b, 1, none⟩ = some (.int .i64 c.shi) ∧
    w.cell? ⟨b, 2, none⟩ = some (.int .i64 c.wlo) ∧ w.cell? ⟨b, 3, none⟩ = some (.int .i64 c.whi) ∧ w.cell? ⟨b, 4, none⟩ = some (.int .i64 c.marks) := by
  refine ⟨?_, ?_, ?_, ?_, ?_⟩ <;> (rw [cell_of_heap hq]; rfl)
set_option maxRecDepth 100000 in
set_option maxHeartbeats 1000000 in
theorem bad_any (c : Prt) (w : World) : Calls Try.prog 114 #[c.v] w fun e w' => e = .returned (.bool (!c.ok)) ∧ Below w.heap.size w w' := by
  have hb : Below w.heap.size w (w.alloc (.cells c.arr 54)) := (Below.refl _ w).alloc (Nat.le_refl _) _
  have hq := World.alloc_heap_new w (.cells c.arr 54)
  have HB := Lib.hid (And.intro hb hq)
  clear hb hq
  unfold Prt.ok
  go_enter Try.func114, Try.ntmps114
  go_wp2_with fail
  obtain ⟨hb, hq⟩ := HB.out
  revert hb hq
  generalize (w.alloc (.cells c.arr 54)) = w1
  intro hb hq
  refine (isSpan_any c.slo c.shi _).mono ?_
  rintro e w2 ⟨rfl, hb2⟩
  have hB2 := bst hb hb2 (Nat.le_refl _)
  have hq2 := (hb2.block _ (heap_lt hq)).trans hq
  obtain ⟨k0, k1, k2, k3, k4⟩ := prt_cells hq2
  cases h1 : spanOk c.slo c.shi
  · go_wp2_with fail
    all_goals try refine ⟨fun _ _ => trivial, ?_⟩
    all_goals try go_wp2_with fail
    go_ret
    exact ⟨ret_bool (by simp [h1]), hB2⟩
  · clear hq hb hb2
    go_wp2_with fail
    refine (isSpan_any c.wlo c.whi _).mono ?_
    rintro e w3 ⟨rfl, hb3⟩
    have hB3 := bst hB2 hb3 (Nat.le_refl _)
    have hq3 := (hb3.block _ (heap_lt hq2)).trans hq2
    clear k0 k1 k2 k3 k4
    obtain ⟨k0, k1, k2, k3, k4⟩ := prt_cells hq3
    cases h2 : spanOk c.wlo c.whi
    · go_wp2_with fail
      all_goals try refine ⟨fun _ _ => trivial, ?_⟩
      all_goals try go_wp2_with fail
      go_ret
      exact ⟨ret_bool (by simp [h1, h2]), hB3⟩
    · go_wp2_with (go_at_call 96; refine (within_any _ _ _ _).mono ?_; rintro e w' ⟨rfl, rfl⟩)
      go_ret
      exact ⟨ret_bool (by simp [h1, h2]), hB3⟩
/-- The first print, from number k on, that is not valid; -1: none. -/
def badP : List Prt → Nat → Int
  | [], _ => -1
  | c :: r, k => if c.ok then badP r (k + 1) else (k : Int)
theorem badP_ge : ∀ (l : List Prt) (k : Nat), decide (0 ≤ badP l k) = !l.all Prt.ok
  | [], k => by simp [badP]
  | x :: r, k => by
    unfold badP
    cases h : x.ok
    · simp [h]
    · simp [h, badP_ge r (k + 1)]
theorem badP_step {l : List Prt} {k : Nat} (hk : k < l.length) : badP (l.drop k) k = if (gp l k).ok then badP (l.drop (k + 1)) (k + 1) else (k : Int) := by
  rw [List.drop_eq_getElem_cons hk]
  have : gp l k = l[k] := by simp [gp, hk]
  rw [this]
  rfl
set_option maxHeartbeats 1000000 in
theorem indexPrt_any {l : List Prt} {a : Option Addr} {cap : Nat} {w : World} (ha : IsPrts w a l) (hn : l.length ≤ 16) :
    Calls Try.prog 120 #[.slice a l.length cap, .func (.func 114) #[] #[]] w fun e w' => e = .returned (.int .i64 (badP l 0)) ∧ Below w.heap.size w w' := by
  go_enter Try.func120, Try.ntmps120
  go_wp2
  go_loopw [4, 5, 8] (fun _ _ i wr => ∃ k : Nat, k ≤ l.length ∧ i = .int .i64 k ∧ Hid (badP l 0 = badP (l.drop k) k) ∧ Below w.heap.size w wr) (fun _ _ i _ => l.length - (intOf i).toNat)
  case atStart => exact ⟨0, by omega, rfl, rfl, Below.refl _ _⟩
  case round =>
    obtain ⟨k, hkn, rfl, HL, hbr⟩ := hrel
    by_cases hlt : k < l.length
    · obtain ⟨b, off, rfl, l0, l1, l2, l3, l4⟩ := (ha.mono hbr) k hlt
      have HB := Lib.hid (badP_step hlt)
      go_wp2_with fail
      refine (bad_any (gp l k) _).mono ?_
      rintro e w2 ⟨rfl, hb2⟩
      cases hok : (gp l k).ok
      · go_wp2
        go_ret
        refine ⟨ret_int ?_, hbr.trans (hb2.mono hbr.size)⟩
        rw [HL.out, HB.out, hok]; rfl
      · go_wp2
        go_roundw
        case rel => exact ⟨k + 1, by omega, by go_num, by rw [Hid, HL.out, HB.out, hok]; rfl, hbr.trans (hb2.mono hbr.size)⟩
        case measure => simp [intOf]; omega
    · go_wp2
      go_ret
      refine ⟨ret_int ?_, hbr⟩
      rw [HL.out, List.drop_of_length_le (by omega)]
      rfl
theorem containsPrt_any {l : List Prt} {a : Option Addr} {cap : Nat} {w : World} (ha : IsPrts w a l) (hn : l.length ≤ 16) :
    Calls Try.prog 116 #[.slice a l.length cap, .func (.func 114) #[] #[]] w fun e w' => e = .returned (.bool (!l.all Prt.ok)) ∧ Below w.heap.size w w' := by
  have HG := Lib.hid (badP_ge l 0)
  have hcall := indexPrt_any (cap := cap) ha hn
  clear ha
  go_enter Try.func116, Try.ntmps116
  go_wp2_with fail
  refine hcall.mono ?_
  rintro e w2 ⟨rfl, hb2⟩
  go_wp2
  go_ret
  exact ⟨ret_bool HG.out, hb2⟩
theorem prs_cells {w : World} {b : Nat} {p : Prs} {a : Option Addr} {cap : Nat} {t : TypeId} (hq : w.heap[b]? = some (.cells (p.cells a cap) t (0, 0))) : w.cell? ⟨b, 0, none⟩ = some (.slice a p.cards.length cap) ∧ w.cell? ⟨b, 1, none⟩ = some (.int .i64 p.llo) ∧
    w.cell? ⟨b, 2, none⟩ = some (.int .i64 p.lhi) ∧ w.cell? ⟨b, 3, none⟩ = some (.int .i64 p.olo) ∧ w.cell? ⟨b, 4, none⟩ = some (.int .i64 p.ohi) := by
  refine ⟨?_, ?_, ?_, ?_, ?_⟩ <;> (rw [cell_of_heap hq]; rfl)
set_option maxRecDepth 100000 in
set_option maxHeartbeats 2000000 in
theorem isPrints_any {p : Prs} {a : Option Addr} {cap : Nat} {w : World} (ha : IsPrts w a p.cards) (hn : p.cards.length ≤ 16) :
    Calls Try.prog 91 #[p.v a cap] w fun e w' => e = .returned (.bool p.valid) ∧ Below w.heap.size w w' := by
  have hb : Below w.heap.size w (w.alloc (.cells (p.cells a cap) 26)) := (Below.refl _ w).alloc (Nat.le_refl _) _
  have hq := World.alloc_heap_new w (.cells (p.cells a cap) 26)
  have HB := Lib.hid (And.intro hb (And.intro hq (ha.mono hb)))
  clear hb hq ha
  unfold Prs.valid
  go_enter Try.func91, Try.ntmps91
  by_cases h5 : p.cards.length ≤ 5
  · have h5' : decide (p.cards.length ≤ 5) = true := by simpa using h5
    go_upto_region 2 with fail
    obtain ⟨hb, hq, ha⟩ := HB.out
    revert hb hq ha
    generalize (w.alloc (.cells (p.cells a cap) 26)) = w1
    intro hb hq ha
    obtain ⟨k0, k1, k2, k3, k4⟩ := prs_cells hq
    go_wp2_with fail
    refine (containsPrt_any ha hn).mono ?_
    rintro e w2 ⟨rfl, hb2⟩
    have hB2 := bst hb hb2 (Nat.le_refl _)
    have hq2 := (hb2.block _ (heap_lt hq)).trans hq
    clear k0 k1 k2 k3 k4 ha
    obtain ⟨k0, k1, k2, k3, k4⟩ := prs_cells hq2
    cases h1 : p.cards.all Prt.ok
    · go_wp2_with fail
      all_goals try refine ⟨fun _ _ => trivial, ?_⟩
      all_goals try go_wp2_with fail
      go_ret
      exact ⟨ret_bool (by rw [h5', h1]; rfl), hB2⟩
    · go_wp2_with fail
      refine (isSpan_any p.llo p.lhi _).mono ?_
      rintro e w3 ⟨rfl, hb3⟩
      have hB3 := bst hB2 hb3 (Nat.le_refl _)
      have hq3 := (hb3.block _ (heap_lt hq2)).trans hq2
      clear k0 k1 k2 k3 k4
      obtain ⟨k0, k1, k2, k3, k4⟩ := prs_cells hq3
      cases h2 : spanOk p.llo p.lhi
      · go_wp2_with fail
        all_goals try refine ⟨fun _ _ => trivial, ?_⟩
        all_goals try go_wp2_with fail
        go_ret
        exact ⟨ret_bool (by rw [h5', h1, h2]; rfl), hB3⟩
      · go_wp2_with fail
        refine (isSpan_any p.olo p.ohi _).mono ?_
        rintro e w4 ⟨rfl, hb4⟩
        have hB4 := bst hB3 hb4 (Nat.le_refl _)
        go_wp2_with fail
        go_ret
        exact ⟨ret_bool (by rw [h5', h1, h2]; rfl), hB4⟩
  · have h5' : decide (p.cards.length ≤ 5) = false := by simpa using h5
    go_upto_region 2 with fail
    obtain ⟨hb, hq, ha⟩ := HB.out
    revert hb hq ha
    generalize (w.alloc (.cells (p.cells a cap) 26)) = w1
    intro hb hq ha
    obtain ⟨k0, k1, k2, k3, k4⟩ := prs_cells hq
    go_wp2_with fail
    all_goals try refine ⟨fun _ _ => trivial, ?_⟩
    all_goals try go_wp2_with fail
    go_ret
    exact ⟨rfl, hb⟩
end Go.Proofs.Ytnfhlbmapfoifaa
namespace Go.Proofs.Ytnfhlbmapfoifaa
open Go.RowKit
set_option linter.unusedVariables false
abbrev lossA (p : Prs) : Array Value := #[.func (.func 92) #[] #[], .int .i64 p.llo, .int .i64 p.lhi, .func (.func 93) #[] #[], .int .i64 p.olo, .int .i64 p.ohi]
abbrev pileA (p : Prs) (a : Option Addr) (cap g : Nat) : Array Value := #[.slice a p.cards.length cap, .int .i64 p.llo, .int .i64 p.lhi, .int .i64 p.olo, .int .i64 p.ohi, .slice (some ⟨g, 0, none⟩) 2 2]
/-- Block bp holds prints that are looked at; block g how they become less. -/
structure PileP (w : World) (bp : Nat) (p : Prs) (a : Option Addr) (cap g : Nat) : Prop where
  pile : w.heap[bp]? = some (.cells (pileA p a cap g) 123 (0, 0))
  loss : w.heap[g]? = some (.cells (lossA p) 120 (0, 0))
  ha : IsPrts w a p.cards
theorem PileP.mono {w w' : World} {bp : Nat} {p : Prs} {a : Option Addr} {cap g : Nat} (h : PileP w bp p a cap g) (hb : Below w.heap.size w w') : PileP w' bp p a cap g :=
  ⟨(hb.block _ (heap_lt h.pile)).trans h.pile, (hb.block _ (heap_lt h.loss)).trans h.loss, h.ha.mono hb⟩
theorem PileP.cells {w : World} {bp : Nat} {p : Prs} {a : Option Addr} {cap g : Nat} (h : PileP w bp p a cap g) :
    w.cell? ⟨bp, 0, none⟩ = some (.slice a p.cards.length cap) ∧ w.cell? ⟨bp, 1, none⟩ = some (.int .i64 p.llo) ∧ w.cell? ⟨bp, 2, none⟩ = some (.int .i64 p.lhi) ∧ w.cell? ⟨bp, 3, none⟩ = some (.int .i64 p.olo) ∧ w.cell? ⟨bp, 4, none⟩ = some (.int .i64 p.ohi) ∧ w.cell? ⟨bp, 5, none⟩ = some (.slice (some ⟨g, 0, none⟩) 2 2) := by
  have hq := h.pile
  refine ⟨?_, ?_, ?_, ?_, ?_, ?_⟩ <;> (rw [cell_of_heap hq]; rfl)
theorem PileP.lcells {w : World} {bp : Nat} {p : Prs} {a : Option Addr} {cap g : Nat} (h : PileP w bp p a cap g) :
    w.cell? ⟨g, 0, none⟩ = some (.func (.func 92) #[] #[]) ∧ w.cell? ⟨g, 1, none⟩ = some (.int .i64 p.llo) ∧ w.cell? ⟨g, 2, none⟩ = some (.int .i64 p.lhi) ∧ w.cell? ⟨g, 3, none⟩ = some (.func (.func 93) #[] #[]) ∧ w.cell? ⟨g, 4, none⟩ = some (.int .i64 p.olo) ∧ w.cell? ⟨g, 5, none⟩ = some (.int .i64 p.ohi) := by
  have hq := h.loss
  refine ⟨?_, ?_, ?_, ?_, ?_, ?_⟩ <;> (rw [cell_of_heap hq]; rfl)
set_option maxRecDepth 100000 in
set_option maxHeartbeats 1000000 in
theorem open_yes {p : Prs} {a : Option Addr} {cap : Nat} {w : World} (ha : IsPrts w a p.cards) (hn : p.cards.length ≤ 16) (hv : p.valid = true) :
    Calls Try.prog 51 #[p.v a cap, .bool true] w fun e w' => ∃ bp g, e = .returned (.pointer (some ⟨bp, 0, none⟩)) ∧ w.heap.size ≤ bp ∧ PileP w' bp p a cap g ∧ Below w.heap.size w w' := by
  have hb : Below w.heap.size w (w.alloc (.cells (p.cells a cap) 26)) := (Below.refl _ w).alloc (Nat.le_refl _) _
  have hq := World.alloc_heap_new w (.cells (p.cells a cap) 26)
  have HB := Lib.hid (And.intro hb (And.intro hq (ha.mono hb)))
  clear hb hq ha
  go_enter Try.func51, Try.ntmps51
  go_upto_region 1 with fail
  obtain ⟨hb, hq, ha⟩ := HB.out
  revert hb hq ha
  generalize (w.alloc (.cells (p.cells a cap) 26)) = w1
  intro hb hq ha
  obtain ⟨k0, k1, k2, k3, k4⟩ := prs_cells hq
  go_wp2_with fail
  refine (isPrints_any ha hn).mono ?_
  rintro e w2 ⟨rfl, hb2⟩
  rw [hv]
  have hB2 := bst hb hb2 (Nat.le_refl _)
  have hq2 := (hb2.block _ (heap_lt hq)).trans hq
  have ha2 := ha.mono hb2
  clear k0 k1 k2 k3 k4 ha
  obtain ⟨k0, k1, k2, k3, k4⟩ := prs_cells hq2
  go_wp2_with (go_at_call 67; refine (need_yes _ _).mono ?_; rintro e w' ⟨rfl, rfl⟩)
  go_ret
  have hb3 : Below w2.heap.size w2 (w2.alloc (.cells (lossA p) 120)) := (Below.refl _ w2).alloc (Nat.le_refl _) _
  have q3 := World.alloc_heap_new w2 (.cells (lossA p) 120)
  have hb4 : Below (w2.alloc (.cells (lossA p) 120)).heap.size (w2.alloc (.cells (lossA p) 120)) ((w2.alloc (.cells (lossA p) 120)).alloc (.cells (pileA p a cap w2.heap.size) 123)) := (Below.refl _ _).alloc (Nat.le_refl _) _
  have q4 := World.alloc_heap_new (w2.alloc (.cells (lossA p) 120)) (.cells (pileA p a cap w2.heap.size) 123)
  rw [World.size_alloc] at q4
  refine ⟨_, w2.heap.size, rfl, by have := hB2.size; omega, ⟨q4, (hb4.block _ (heap_lt q3)).trans q3, (ha2.mono hb3).mono hb4⟩, hB2.trans ((hb3.trans (hb4.mono (by simp))).mono hB2.size)⟩
set_option maxRecDepth 100000 in
set_option maxHeartbeats 1000000 in
theorem open_no {p : Prs} {a : Option Addr} {cap : Nat} {w : World} (ha : IsPrts w a p.cards) (hn : p.cards.length ≤ 16) (ok : Bool) (hv : openE p ok ≠ 0) :
    Calls Try.prog 51 #[p.v a cap, .bool ok] w fun e w' => e = .panicked [{ v := .iface 115 (.agg #[.int .i64 (openE p ok)]), recovered := false }] ∧ Below w.heap.size w w' := by
  have hb : Below w.heap.size w (w.alloc (.cells (p.cells a cap) 26)) := (Below.refl _ w).alloc (Nat.le_refl _) _
  have hq := World.alloc_heap_new w (.cells (p.cells a cap) 26)
  have HB := Lib.hid (And.intro hb (And.intro hq (ha.mono hb)))
  have HV := Lib.hid hv
  clear hb hq ha hv
  go_enter Try.func51, Try.ntmps51
  go_upto_region 1 with fail
  obtain ⟨hb, hq, ha⟩ := HB.out
  revert hb hq ha
  generalize (w.alloc (.cells (p.cells a cap) 26)) = w1
  intro hb hq ha
  obtain ⟨k0, k1, k2, k3, k4⟩ := prs_cells hq
  go_wp2_with fail
  refine (isPrints_any ha hn).mono ?_
  rintro e w2 ⟨rfl, hb2⟩
  have hB2 := bst hb hb2 (Nat.le_refl _)
  cases hv : p.valid
  · have HE : Hid (openE p ok = 1) := by unfold Hid openE; rw [hv]; rfl
    go_wp2_with (go_at_call 67; refine (need_no _ _).mono ?_; rintro e w' ⟨rfl, rfl⟩)
    rw [HE.out]
    exact ⟨rfl, rfl, hB2⟩
  · cases ok with
    | true => exact (HV.out (by unfold openE; rw [hv]; rfl)).elim
    | false =>
      have HE : Hid (openE p false = 2) := by unfold Hid openE; rw [hv]; rfl
      clear k0 k1 k2 k3 k4
      go_wp2_with fail
      refine (need_yes _ _).mono ?_
      rintro e w' ⟨rfl, rfl⟩
      go_wp2_with fail
      refine (need_no _ _).mono ?_
      rintro e w' ⟨rfl, rfl⟩
      go_wp2_with fail
      rw [HE.out]
      exact ⟨rfl, rfl, hB2⟩
end Go.Proofs.Ytnfhlbmapfoifaa
namespace Go.Proofs.Ytnfhlbmapfoifaa
open Go.RowKit
set_option linter.unusedVariables false
/-- So many cards, each copied from another one, or from none. -/
def GoodW (n : Nat) (w : List Int) : Prop := w.length = n ∧ ∀ x ∈ w, -1 ≤ x ∧ x < n
theorem GoodW.gi {n : Nat} {w : List Int} (h : GoodW n w) {k : Nat} (hk : k < n) : -1 ≤ gi w k ∧ gi w k < n := by
  have hk' : k < w.length := by rw [h.1]; exact hk
  exact h.2 _ (by simp [Go.Proofs.Ytnfhlbmapfoifaa.gi, hk'])
theorem upW_rng {n : Nat} {w : List Int} (h : GoodW n w) : ∀ (m : Nat) (k : Int), -1 ≤ k → k < n → -1 ≤ upW w m k ∧ upW w m k < n
  | 0, k, h0, h1 => ⟨h0, h1⟩
  | m + 1, k, h0, h1 => by
    unfold upW
    split
    · exact upW_rng h m _ (by omega) (by omega)
    · have := h.gi (k := k.toNat) (by omega)
      exact upW_rng h m _ this.1 this.2
/-- One step more at the end. -/
theorem upW_snoc (w : List Int) : ∀ (m : Nat) (k : Int), upW w (m + 1) k = if upW w m k = -1 then -1 else gi w (upW w m k).toNat
  | 0, k => rfl
  | m + 1, k => by
    have := upW_snoc w m (if k = -1 then -1 else gi w k.toNat)
    rw [show upW w (m + 1 + 1) k = upW w (m + 1) (if k = -1 then -1 else gi w k.toNat) from rfl, this]
    rfl
theorem roundB_false {w : List Int} : roundB w = false ↔ ∀ c, c < w.length → upW w w.length (c : Int) = -1 := by
  unfold roundB
  rw [List.any_eq_false]
  constructor
  · intro h c hc
    have := h c (List.mem_range.2 hc)
    simpa using this
  · intro h c hc
    simpa using h c (List.mem_range.1 hc)
theorem roundB_true {w : List Int} {c : Nat} (hc : c < w.length) (h : upW w w.length (c : Int) ≠ -1) : roundB w = true :=
  List.any_eq_true.2 ⟨c, List.mem_range.2 hc, by simpa using h⟩
set_option maxHeartbeats 1000000 in
theorem round_any {n : Nat} {wl : List Int} (hw : GoodW n wl) (hn : n ≤ 5) {a : Option Addr} {cap : Nat} {w : World} (ha : IsInts w a wl) :
    Calls Try.prog 110 #[.slice a wl.length cap] w fun e w' => e = .returned (.bool (roundB wl)) ∧ w = w' := by
  have hl := hw.1
  have HL := Lib.hid hl
  have hl5 : wl.length ≤ 5 := by omega
  clear hl
  go_enter Try.func110, Try.ntmps110
  go_wp2
  go_loop [2, 7] (fun r i => ∃ k : Nat, k ≤ wl.length ∧ i = .int .i64 k ∧ Hid (∀ c, c < k → upW wl wl.length (c : Int) = -1)) (fun _ i => wl.length - (intOf i).toNat)
  case atStart => exact ⟨0, by omega, rfl, fun c hc => by omega⟩
  case round =>
    obtain ⟨k, hk, rfl, HK⟩ := hrel
    by_cases hlt : k < wl.length
    · go_wp2
      go_loop [4, 13] (fun q j => ∃ m : Nat, m ≤ wl.length ∧ j = .int .i64 m ∧ q = .int .i64 (upW wl m (k : Int))) (fun _ j => wl.length - (intOf j).toNat)
      case atStart => exact ⟨0, by omega, rfl, rfl⟩
      case round =>
        obtain ⟨m, hm, rfl, rfl⟩ := hrel
        have hr := upW_rng hw m (k : Int) (by omega) (by have := HL.out; omega)
        have HS := Lib.hid (upW_snoc wl m (k : Int))
        obtain ⟨u, hu⟩ : ∃ u, upW wl m (k : Int) = u := ⟨_, rfl⟩
        rw [hu] at hr HS ⊢
        by_cases hml : m < wl.length
        · clear hu
          by_cases h1 : u = -1
          · subst h1
            go_wp2
            go_round
            case rel => exact ⟨m + 1, by omega, by go_num, by rw [HS.out]; rfl⟩
            case measure => simp [intOf]; omega
          · have hb : (u != -1) = true := by simpa using h1
            obtain ⟨un, rfl⟩ := Int.eq_ofNat_of_zero_le (show 0 ≤ u by omega)
            have hun : un < wl.length := by have := HL.out; omega
            have HU := Lib.hid h1
            obtain ⟨b, off, rfl, hc⟩ := ha un hun
            clear h1
            go_wp2
            go_round
            case rel => exact ⟨m + 1, by omega, by go_num, by rw [HS.out, if_neg HU.out]; rfl⟩
            case measure => simp [intOf]; omega
        · obtain rfl : m = wl.length := by omega
          have HU := Lib.hid hu
          clear hu
          by_cases h1 : u = -1
          · subst h1
            go_wp2
            go_round
            case rel => exact ⟨k + 1, by omega, by go_num, fun c hc => by
              by_cases e : c = k
              · subst e; exact HU.out
              · exact HK.out c (by omega)⟩
            case measure => simp [intOf]; omega
          · have hb : (u != -1) = true := by simpa using h1
            have H1 := Lib.hid h1
            clear h1
            go_wp2
            go_ret
            exact ⟨ret_bool (by rw [roundB_true hlt (by rw [HU.out]; exact H1.out)]), rfl⟩
    · obtain rfl : k = wl.length := by omega
      go_wp2
      go_ret
      exact ⟨ret_bool (by rw [roundB_false.2 HK.out]), rfl⟩
theorem origN_snoc (l : List Int) (x : Int) : origN (l ++ [x]) = origN l + if x = -1 then 1 else 0 := by
  unfold origN; rw [List.countP_append]; by_cases h : x = -1 <;> simp [h]
theorem take_snoc' {l : List Int} {k : Nat} (h : k < l.length) : l.take (k + 1) = l.take k ++ [gi l k] := by
  rw [List.take_succ_eq_append_getElem h]; simp [gi, h]
set_option maxHeartbeats 1000000 in
theorem originals_any {wl : List Int} (hl5 : wl.length ≤ 16) {a : Option Addr} {cap : Nat} {w : World} (ha : IsInts w a wl) :
    Calls Try.prog 55 #[.slice a wl.length cap] w fun e w' => e = .returned (.int .i64 (origN wl)) ∧ w = w' := by
  go_enter Try.func55, Try.ntmps55
  go_wp2
  go_loop [2, 7] (fun r i => ∃ k z : Nat, k ≤ wl.length ∧ i = .int .i64 k ∧ r = .int .i64 z ∧ z ≤ k ∧ Hid (z = origN (wl.take k))) (fun _ i => wl.length - (intOf i).toNat)
  case atStart => exact ⟨0, 0, by omega, rfl, rfl, by omega, rfl⟩
  case round =>
    obtain ⟨k, z, hk, rfl, rfl, hz, HZ⟩ := hrel
    by_cases hlt : k < wl.length
    · obtain ⟨b, off, rfl, hc⟩ := ha k hlt
      have HS : Hid (origN (wl.take (k + 1)) = origN (wl.take k) + if gi wl k = -1 then 1 else 0) := by rw [Hid, take_snoc' hlt, origN_snoc]
      by_cases h1 : gi wl k = -1
      · have hb : (gi wl k == -1) = true := by simpa using h1
        have H1 := Lib.hid h1
        clear h1
        go_wp2
        go_round
        case rel => exact ⟨k + 1, z + 1, by omega, by go_num, by go_num, by omega, by rw [Hid, HS.out, if_pos H1.out, HZ.out]⟩
        case measure => simp [intOf]; omega
      · have hb : (gi wl k == -1) = false := by simpa using h1
        have H1 := Lib.hid h1
        clear h1
        go_wp2
        go_round
        case rel => exact ⟨k + 1, z, by omega, by go_num, rfl, by omega, by have := HZ.out; rw [Hid, HS.out, if_neg H1.out]; omega⟩
        case measure => simp [intOf]; omega
    · obtain rfl : k = wl.length := by omega
      rw [Hid, List.take_length] at HZ
      go_wp2
      go_ret
      exact ⟨rfl, rfl⟩
theorem andNot_none (a b : Nat) (h : ∀ i, a.testBit i = true → b.testBit i = true) : bits .andNot .i64 (a : Int) (b : Int) = 0 := by
  have e : (BitVec.ofInt 64 (a : Int) &&& ~~~ BitVec.ofInt 64 (b : Int)) = 0#64 := by
    apply BitVec.eq_of_getLsbD_eq
    intro i hi
    rw [BitVec.ofInt_natCast, BitVec.ofInt_natCast]
    simp only [BitVec.getLsbD_and, BitVec.getLsbD_not, BitVec.getLsbD_ofNat]
    have := h i
    cases ha : a.testBit i <;> cases hb : b.testBit i <;> simp_all
  have : bits .andNot .i64 (a : Int) (b : Int) = IntKind.i64.wrap ((BitVec.ofInt 64 (a : Int) &&& ~~~ BitVec.ofInt 64 (b : Int)).toNat : Int) := rfl
  rw [this, e]
  decide
theorem andNot_some (a b : Nat) {i : Nat} (hi : i < 10) (h1 : a.testBit i = true) (h2 : b.testBit i = false) : bits .andNot .i64 (a : Int) (b : Int) ≠ 0 := by
  have e : (BitVec.ofInt 64 (a : Int) &&& ~~~ BitVec.ofInt 64 (b : Int)) ≠ 0#64 := fun e => by
    have := congrArg (fun v => v.getLsbD i) e
    simp only [BitVec.ofInt_natCast, BitVec.getLsbD_and, BitVec.getLsbD_not, BitVec.getLsbD_ofNat, h1, h2] at this
    simp at this
    omega
  have : bits .andNot .i64 (a : Int) (b : Int) = IntKind.i64.wrap ((BitVec.ofInt 64 (a : Int) &&& ~~~ BitVec.ofInt 64 (b : Int)).toNat : Int) := rfl
  rw [this]
  intro hz
  apply e
  apply BitVec.eq_of_toNat_eq
  have hlt := (BitVec.ofInt 64 (a : Int) &&& ~~~ BitVec.ofInt 64 (b : Int)).isLt
  rw [IntKind.wrap_i64] at hz
  simp only [BitVec.toNat_ofNat]
  omega
theorem marks_rng {p : Prs} (hv : p.valid = true) {k : Nat} (hk : k < p.cards.length) : 0 ≤ (gp p.cards k).marks ∧ (gp p.cards k).marks ≤ 1023 := by
  unfold Prs.valid at hv
  simp only [Bool.and_eq_true, List.all_eq_true] at hv
  have := hv.1.1.2 (p.cards[k]) (by simp)
  unfold Prt.ok inR at this
  simp only [Bool.and_eq_true, decide_eq_true_eq] at this
  simp only [gp, List.getD_eq_getElem?_getD, hk, List.getElem?_eq_getElem, Option.getD_some]
  exact this.2
theorem marked_bits {p : Prs} (hv : p.valid = true) {card frm : Nat} (hc : card < p.cards.length) (hf : frm < p.cards.length) :
    (bits .andNot .i64 (gp p.cards frm).marks (gp p.cards card).marks == 0) = markedB p card frm := by
  obtain ⟨a0, a1⟩ := marks_rng hv hf
  obtain ⟨b0, b1⟩ := marks_rng hv hc
  unfold markedB
  generalize (gp p.cards frm).marks = x at *
  generalize (gp p.cards card).marks = y at *
  obtain ⟨x, rfl⟩ := Int.eq_ofNat_of_zero_le a0
  obtain ⟨y, rfl⟩ := Int.eq_ofNat_of_zero_le b0
  simp only [Int.toNat_natCast]
  by_cases h : ∀ i, x.testBit i = true → y.testBit i = true
  · have e1 : bits .andNot .i64 (x : Int) (y : Int) = 0 := andNot_none x y h
    have e2 : ((List.range 10).all fun d => !x.testBit d || y.testBit d) = true := List.all_eq_true.2 fun d _ => by
      cases hx : x.testBit d
      · rfl
      · simp [h d hx]
    rw [e1, e2]; rfl
  · have : ∃ i, x.testBit i = true ∧ y.testBit i = false := by
      apply Classical.byContradiction
      intro hno
      apply h
      intro i hi
      cases hy : y.testBit i with
      | true => rfl
      | false => exact (hno ⟨i, hi, hy⟩).elim
    obtain ⟨i, h1, h2⟩ := this
    have hi : i < 10 := by
      apply Classical.byContradiction
      intro hge
      have hge' : 10 ≤ i := by omega
      have : x < 2 ^ i := Nat.lt_of_lt_of_le (show x < 2 ^ 10 by omega) (Nat.pow_le_pow_right (by decide) hge')
      rw [Nat.testBit_lt_two_pow this] at h1
      cases h1
    have e1 : bits .andNot .i64 (x : Int) (y : Int) ≠ 0 := andNot_some x y hi h1 h2
    have e2 : ((List.range 10).all fun d => !x.testBit d || y.testBit d) = false := List.all_eq_false.2 ⟨i, List.mem_range.2 hi, by simp [h1, h2]⟩
    rw [e2]
    simpa using e1
set_option maxRecDepth 100000 in
set_option maxHeartbeats 1000000 in
theorem marked_any {p : Prs} {a : Option Addr} {cap bp g : Nat} {w : World} (hP : PileP w bp p a cap g) (hv : p.valid = true) {card frm : Nat} (hc : card < p.cards.length) (hf : frm < p.cards.length) :
    Calls Try.prog 109 #[.pointer (some ⟨bp, 0, none⟩), .int .i64 card, .int .i64 frm] w fun e w' => e = .returned (.bool (markedB p card frm)) ∧ Below w.heap.size w w' := by
  have HM := Lib.hid (marked_bits hv hc hf)
  obtain ⟨c0, _⟩ := hP.cells
  obtain ⟨b1, o1, h1, _, _, _, _, m1⟩ := hP.ha frm hf
  obtain ⟨b2, o2, h2, _, _, _, _, m2⟩ := hP.ha card hc
  subst h1
  obtain ⟨rfl, rfl⟩ : b1 = b2 ∧ o1 = o2 := by simpa using h2
  have y0 := fun y : Aft w.heap.size w => cell_stays y.h c0
  have y1 := fun y : Aft w.heap.size w => cell_stays y.h m1
  have y2 := fun y : Aft w.heap.size w => cell_stays y.h m2
  clear c0 m1 m2 hP h2 hv
  go_enter Try.func109, Try.ntmps109
  go_wp2_with fail
  refine wp_region_aft mixed (by kernel_rfl) ?_
  repeat (go_big_quiet_step (fail))
  refine wpQuiet_nil ?_
  rintro _ ⟨y, rfl⟩
  go_wp2_with fail
  go_ret
  exact ⟨ret_bool HM.out, y.h⟩
end Go.Proofs.Ytnfhlbmapfoifaa
namespace Go.Proofs.Ytnfhlbmapfoifaa
open Go.RowKit
set_option linter.unusedVariables false
theorem upW_stays {wl : List Int} {L : Nat} {c : Int} (h : upW wl L c = -1) : ∀ d, upW wl (L + d) c = -1
  | 0 => h
  | d + 1 => by rw [show L + (d + 1) = (L + d) + 1 from rfl, upW_snoc, upW_stays h d]; rfl
theorem comesF_none (wl : List Int) (frm : Int) (f : Nat) : comesF wl frm f (-1) = false := by cases f <;> simp [comesF]
theorem comesF_hit (wl : List Int) {frm : Int} (f : Nat) (h : frm ≠ -1) : comesF wl frm (f + 1) frm = true := by simp [comesF, h]
theorem comesF_on (wl : List Int) {frm u : Int} (f : Nat) (h : u ≠ -1) (h' : u ≠ frm) : comesF wl frm (f + 1) u = comesF wl frm f (gi wl u.toNat) := by simp [comesF, h, h']
set_option maxHeartbeats 1000000 in
theorem comes_any {n : Nat} {wl : List Int} (hw : GoodW n wl) (hn : n ≤ 5) (hr : roundB wl = false) {card frm : Nat} (hc : card < n) (hf : frm < n) {a : Option Addr} {cap : Nat} {w : World} (ha : IsInts w a wl) :
    Calls Try.prog 56 #[.slice a wl.length cap, .int .i64 card, .int .i64 frm] w fun e w' => e = .returned (.bool (comesB wl card frm)) ∧ w = w' := by
  have HL := Lib.hid hw.1
  have HR := Lib.hid (roundB_false.1 hr card (by rw [hw.1]; exact hc))
  have hl5 : wl.length ≤ 5 := by rw [hw.1]; exact hn
  have hcl : card < wl.length := by rw [hw.1]; exact hc
  obtain ⟨b, off, rfl, hc0⟩ := ha card hcl
  clear hr
  go_enter Try.func56, Try.ntmps56
  go_wp2
  clear hc0
  go_loopg [7] (wl.length + 1) (fun f q wr => ∃ (u : Int) (m : Nat), q = .int .i64 u ∧ Hid (u = upW wl m (card : Int)) ∧ f + m = wl.length + 2 ∧ Hid (comesB wl card frm = comesF wl frm f u) ∧ -1 ≤ u ∧ u < n ∧ w = wr)
  case atStart => exact ⟨gi wl card, 1, rfl, by simp [Hid, upW], rfl, rfl, (hw.gi hc).1, (hw.gi hc).2, rfl⟩
  case round =>
    obtain ⟨u, m, rfl, HU, hfm, HC, hu0, hu1, rfl⟩ := hrel
    by_cases h1 : u = -1
    · subst h1
      have HE := Lib.hid (comesF_none wl frm gk)
      go_wp2
      go_ret
      exact ⟨ret_bool (by rw [HC.out, HE.out]), rfl⟩
    · obtain ⟨f, rfl⟩ : ∃ f, gk = f + 1 := ⟨gk - 1, by
        have : gk ≠ 0 := fun e => h1 (by
          have := upW_stays HR.out 2
          rw [HU.out, show m = wl.length + 2 by omega]; exact this)
        omega⟩
      obtain ⟨un, rfl⟩ := Int.eq_ofNat_of_zero_le (show 0 ≤ u by omega)
      have hun : un < wl.length := by have := HL.out; omega
      have hb : ((un : Int) != -1) = true := by simp
      have HN := Lib.hid h1
      by_cases h2 : un = frm
      · subst h2
        have HH := Lib.hid (comesF_hit wl (frm := (un : Int)) f (by omega))
        clear h1 hfm
        go_wp2
        go_ret
        exact ⟨ret_bool (by rw [HC.out, HH.out]), rfl⟩
      · have hb2 : ((un : Int) == (frm : Int)) = false := by simp; omega
        have HH := Lib.hid (comesF_on wl (frm := (frm : Int)) f h1 (by omega))
        obtain ⟨b', off', he, hc1⟩ := ha un hun
        obtain ⟨rfl, rfl⟩ : b = b' ∧ off = off' := by simpa using he
        have hgi := hw.gi (k := un) (by omega)
        have HS : Hid (upW wl (m + 1) (card : Int) = gi wl un) := by rw [Hid, upW_snoc, ← HU.out, if_neg HN.out]; rfl
        have HF := Lib.hid hfm
        clear h1 he hfm
        go_wp2
        go_roundg f
        case rel => exact ⟨gi wl un, m + 1, rfl, HS.out.symm, by have := HF.out; omega, by rw [Hid, HC.out, HH.out]; rfl, hgi.1, hgi.2, rfl⟩
        case measure => omega
theorem res_c24 {fn : Func} {p : Tmp} (h : fn.results = #[.cell p 24]) (tmps : Array Value) {w : World} {b : Nat} {x y : Int} (hp : tmps.getD p undef = .pointer (some ⟨b, 0, none⟩))
    (h0 : w.cell? ⟨b, 0, none⟩ = some (.int .i64 x)) (h1 : w.cell? ⟨b, 1, none⟩ = some (.int .i64 y)) : (results fn tmps).run Try.prog w = .ok (.agg #[.int .i64 x, .int .i64 y]) w := by
  have hp' : tmps[p]?.getD undef = .pointer (some ⟨b, 0, none⟩) := by simpa using hp
  simp [results, h, hp', h0, h1, go_sem]
theorem res_c24t {fn : Func} {p u : Tmp} (h : fn.results = #[.cell p 24, .tmp u]) (tmps : Array Value) {w : World} {b : Nat} {x y : Int} {v : Value} (hp : tmps.getD p undef = .pointer (some ⟨b, 0, none⟩)) (hu : tmps.getD u undef = v)
    (h0 : w.cell? ⟨b, 0, none⟩ = some (.int .i64 x)) (h1 : w.cell? ⟨b, 1, none⟩ = some (.int .i64 y)) : (results fn tmps).run Try.prog w = .ok (.tuple #[.agg #[.int .i64 x, .int .i64 y], v]) w := by
  have hp' : tmps[p]?.getD undef = .pointer (some ⟨b, 0, none⟩) := by simpa using hp
  have hu' : tmps[u]?.getD undef = v := by simpa using hu
  simp [results, h, hp', hu', h0, h1, go_sem]
def ofF (what : Bool) : Nat := if what then 93 else 92
set_option maxHeartbeats 1000000 in
theorem of_any (what : Bool) (c : Prt) (w : World) : Calls Try.prog (ofF what) #[c.v] w fun e w' => e = .returned (.agg #[.int .i64 (c.of what).1, .int .i64 (c.of what).2]) ∧ Below w.heap.size w w' := by
  have HB : Hid (∀ x y : Int, Below w.heap.size w ((w.alloc (.cells c.arr 54)).alloc (.cells #[.int .i64 x, .int .i64 y] 24))) := fun x y => ((Below.refl _ w).alloc (Nat.le_refl _) _).alloc (by simp) _
  have HN : Hid (∀ x y : Int, ((w.alloc (.cells c.arr 54)).alloc (.cells #[.int .i64 x, .int .i64 y] 24)).heap[w.heap.size + 1]? = some (.cells #[.int .i64 x, .int .i64 y] 24 (0, 0))) := fun x y => by
    have := World.alloc_heap_new (w.alloc (.cells c.arr 54)) (.cells #[.int .i64 x, .int .i64 y] 24)
    rwa [World.size_alloc] at this
  cases what with
  | false =>
    show Calls Try.prog 92 #[c.v] w _
    go_enter Try.func92, Try.ntmps92
    go_wp2
    have hn := HN.out c.slo c.shi
    exact bodyPost_ret (v := .agg #[.int .i64 c.slo, .int .i64 c.shi]) (res_c24 rfl _ rfl (by rw [cell_of_heap hn]; rfl) (by rw [cell_of_heap hn]; rfl)) rfl ⟨rfl, HB.out _ _⟩
  | true =>
    show Calls Try.prog 93 #[c.v] w _
    go_enter Try.func93, Try.ntmps93
    go_wp2
    have hn := HN.out c.wlo c.whi
    exact bodyPost_ret (v := .agg #[.int .i64 c.wlo, .int .i64 c.whi]) (res_c24 rfl _ rfl (by rw [cell_of_heap hn]; rfl) (by rw [cell_of_heap hn]; rfl)) rfl ⟨rfl, HB.out _ _⟩
theorem cfOf (what : Bool) (args : Array Value) (w : World) : (callFunc (ofF what) args).run Try.prog w = .ok (.enter (ofF what) args) w := by
  cases what with
  | false => show (callFunc 92 args).run Try.prog w = _; simp [callFunc, Try.func92, Try.f92, go_sem, ofF]
  | true => show (callFunc 93 args).run Try.prog w = _; simp [callFunc, Try.func93, Try.f93, go_sem, ofF]
def regionAt (n : Nat) : Code → Option Code
  | .region id ops b => if id = n then some (.region id ops b) else none
  | .seq a b => match regionAt n a with
    | some c => some c
    | none => regionAt n b
  | .block _ c => regionAt n c
  | .scope c => regionAt n c
  | .loop c => regionAt n c
  | .cond _ a b => match regionAt n a with
    | some c => some c
    | none => regionAt n b
  | _ => none
theorem wp_seq_hid {P : Program} {x y : Code} {Q : Exit → Act → World → Prop} {a : Act} {w : World} (h : ∀ K, Hid (∀ a' w', y.wp P Q a' w' → K a' w') → x.wp P (Exit.then K Q) a w) : (Code.seq x y).wp P Q a w :=
  wp_seq (h _ fun _ _ h => h)
/-- What the closure that tells what can be of a card has captured. -/
structure WhatW (w : World) (bl bpb bw bs : Nat) (what : Bool) (p : Prs) (a : Option Addr) (cap bp g : Nat) (wl : List Int) (aw : Option Addr) (cw : Nat) : Prop where
  hl : w.heap[bl]? = some (.cells #[.func (.func (ofF what)) #[] #[], .int .i64 (p.by_ what).1, .int .i64 (p.by_ what).2] 120 (0, 0))
  hp : w.heap[bpb]? = some (.cells #[.pointer (some ⟨bp, 0, none⟩)] 79 (0, 0))
  hw : w.heap[bw]? = some (.cells #[.slice aw wl.length cw] 76 (0, 0))
  hs : w.heap[bs]? = some (.cells #[.func (.func 119) #[] #[.pointer (some ⟨bl, 0, none⟩), .pointer (some ⟨bpb, 0, none⟩), .pointer (some ⟨bw, 0, none⟩), .pointer (some ⟨bs, 0, none⟩)]] 143 (0, 0))
  hP : PileP w bp p a cap g
  hi : IsInts w aw wl
theorem WhatW.mono {w w' : World} {bl bpb bw bs : Nat} {what : Bool} {p : Prs} {a : Option Addr} {cap bp g : Nat} {wl : List Int} {aw : Option Addr} {cw : Nat} (h : WhatW w bl bpb bw bs what p a cap bp g wl aw cw) (hb : Below w.heap.size w w') : WhatW w' bl bpb bw bs what p a cap bp g wl aw cw :=
  ⟨(hb.block _ (heap_lt h.hl)).trans h.hl, (hb.block _ (heap_lt h.hp)).trans h.hp, (hb.block _ (heap_lt h.hw)).trans h.hw, (hb.block _ (heap_lt h.hs)).trans h.hs, h.hP.mono hb, h.hi.mono hb⟩
structure what1F (W1 : World) (bl bpb bp b off card n cap : Nat) (what : Bool) (c : Prt) (d : Nat → Bool) (x13 x14 x15 x16 x17 x18 x19 x20 x21 x22 x23 x8 : Value) (w : World) : Prop where
  same : Below W1.heap.size W1 w
  f0 : d 0 = true → x13 = .pointer (some ⟨bl, 0, none⟩)
  f1 : d 1 = true → x14 = .func (.func (ofF what)) #[] #[]
  f2 : d 2 = true → x15 = .pointer (some ⟨bp, 0, none⟩)
  f3 : d 3 = true → x16 = .pointer (some ⟨bp, 0, none⟩)
  f4 : d 4 = true → x17 = .pointer (some ⟨bp, 0, none⟩)
  f5 : d 5 = true → x18 = .pointer (some ⟨bp, 0, none⟩)
  f6 : d 6 = true → x19 = .slice (some ⟨b, off, none⟩) n cap
  f7 : d 7 = true → x20 = .int .i64 card
  f8 : d 8 = true → x21 = .pointer (some ⟨b, off + card * 5, none⟩)
  f9 : d 9 = true → x22 = .agg c.arr
  f10 : d 10 = true → x23 = .agg #[.int .i64 (c.of what).1, .int .i64 (c.of what).2]
  f11 : d 11 = true → ∃ bq : Nat, x8 = .pointer (some ⟨bq, 0, none⟩) ∧ W1.heap.size ≤ bq ∧ w.heap[bq]? = some (.cells (if d 12 then #[.int .i64 (c.of what).1, .int .i64 (c.of what).2] else #[.int .i64 0, .int .i64 0]) 24 (0, 0))
  o12 : d 12 = true → d 11 = true
section
variable {W1 : World} {bl bpb bp b off card n cap : Nat} {what : Bool} {c : Prt} {d : Nat → Bool} {x13 x14 x15 x16 x17 x18 x19 x20 x21 x22 x23 x8 : Value} {w w' : World}
theorem what1F.s0 (F : what1F W1 bl bpb bp b off card n cap what c d x13 x14 x15 x16 x17 x18 x19 x20 x21 x22 x23 x8 w) : what1F W1 bl bpb bp b off card n cap what c (upd d 0) (.pointer (some ⟨bl, 0, none⟩)) x14 x15 x16 x17 x18 x19 x20 x21 x22 x23 x8 w := ⟨F.same, fun _ => rfl, F.f1, F.f2, F.f3, F.f4, F.f5, F.f6, F.f7, F.f8, F.f9, F.f10, F.f11, F.o12⟩
theorem what1F.s1 (F : what1F W1 bl bpb bp b off card n cap what c d x13 x14 x15 x16 x17 x18 x19 x20 x21 x22 x23 x8 w) : what1F W1 bl bpb bp b off card n cap what c (upd d 1) x13 (.func (.func (ofF what)) #[] #[]) x15 x16 x17 x18 x19 x20 x21 x22 x23 x8 w := ⟨F.same, F.f0, fun _ => rfl, F.f2, F.f3, F.f4, F.f5, F.f6, F.f7, F.f8, F.f9, F.f10, F.f11, F.o12⟩
theorem what1F.s2 (F : what1F W1 bl bpb bp b off card n cap what c d x13 x14 x15 x16 x17 x18 x19 x20 x21 x22 x23 x8 w) : what1F W1 bl bpb bp b off card n cap what c (upd d 2) x13 x14 (.pointer (some ⟨bp, 0, none⟩)) x16 x17 x18 x19 x20 x21 x22 x23 x8 w := ⟨F.same, F.f0, F.f1, fun _ => rfl, F.f3, F.f4, F.f5, F.f6, F.f7, F.f8, F.f9, F.f10, F.f11, F.o12⟩
theorem what1F.s3 (F : what1F W1 bl bpb bp b off card n cap what c d x13 x14 x15 x16 x17 x18 x19 x20 x21 x22 x23 x8 w) : what1F W1 bl bpb bp b off card n cap what c (upd d 3) x13 x14 x15 (.pointer (some ⟨bp, 0, none⟩)) x17 x18 x19 x20 x21 x22 x23 x8 w := ⟨F.same, F.f0, F.f1, F.f2, fun _ => rfl, F.f4, F.f5, F.f6, F.f7, F.f8, F.f9, F.f10, F.f11, F.o12⟩
theorem what1F.s4 (F : what1F W1 bl bpb bp b off card n cap what c d x13 x14 x15 x16 x17 x18 x19 x20 x21 x22 x23 x8 w) : what1F W1 bl bpb bp b off card n cap what c (upd d 4) x13 x14 x15 x16 (.pointer (some ⟨bp, 0, none⟩)) x18 x19 x20 x21 x22 x23 x8 w := ⟨F.same, F.f0, F.f1, F.f2, F.f3, fun _ => rfl, F.f5, F.f6, F.f7, F.f8, F.f9, F.f10, F.f11, F.o12⟩
theorem what1F.s5 (F : what1F W1 bl bpb bp b off card n cap what c d x13 x14 x15 x16 x17 x18 x19 x20 x21 x22 x23 x8 w) : what1F W1 bl bpb bp b off card n cap what c (upd d 5) x13 x14 x15 x16 x17 (.pointer (some ⟨bp, 0, none⟩)) x19 x20 x21 x22 x23 x8 w := ⟨F.same, F.f0, F.f1, F.f2, F.f3, F.f4, fun _ => rfl, F.f6, F.f7, F.f8, F.f9, F.f10, F.f11, F.o12⟩
theorem what1F.s6 (F : what1F W1 bl bpb bp b off card n cap what c d x13 x14 x15 x16 x17 x18 x19 x20 x21 x22 x23 x8 w) : what1F W1 bl bpb bp b off card n cap what c (upd d 6) x13 x14 x15 x16 x17 x18 (.slice (some ⟨b, off, none⟩) n cap) x20 x21 x22 x23 x8 w := ⟨F.same, F.f0, F.f1, F.f2, F.f3, F.f4, F.f5, fun _ => rfl, F.f7, F.f8, F.f9, F.f10, F.f11, F.o12⟩
theorem what1F.s7 (F : what1F W1 bl bpb bp b off card n cap what c d x13 x14 x15 x16 x17 x18 x19 x20 x21 x22 x23 x8 w) : what1F W1 bl bpb bp b off card n cap what c (upd d 7) x13 x14 x15 x16 x17 x18 x19 (.int .i64 card) x21 x22 x23 x8 w := ⟨F.same, F.f0, F.f1, F.f2, F.f3, F.f4, F.f5, F.f6, fun _ => rfl, F.f8, F.f9, F.f10, F.f11, F.o12⟩
theorem what1F.s8 (F : what1F W1 bl bpb bp b off card n cap what c d x13 x14 x15 x16 x17 x18 x19 x20 x21 x22 x23 x8 w) : what1F W1 bl bpb bp b off card n cap what c (upd d 8) x13 x14 x15 x16 x17 x18 x19 x20 (.pointer (some ⟨b, off + card * 5, none⟩)) x22 x23 x8 w := ⟨F.same, F.f0, F.f1, F.f2, F.f3, F.f4, F.f5, F.f6, F.f7, fun _ => rfl, F.f9, F.f10, F.f11, F.o12⟩
theorem what1F.s9 (F : what1F W1 bl bpb bp b off card n cap what c d x13 x14 x15 x16 x17 x18 x19 x20 x21 x22 x23 x8 w) : what1F W1 bl bpb bp b off card n cap what c (upd d 9) x13 x14 x15 x16 x17 x18 x19 x20 x21 (.agg c.arr) x23 x8 w := ⟨F.same, F.f0, F.f1, F.f2, F.f3, F.f4, F.f5, F.f6, F.f7, F.f8, fun _ => rfl, F.f10, F.f11, F.o12⟩
theorem what1F.s10 (F : what1F W1 bl bpb bp b off card n cap what c d x13 x14 x15 x16 x17 x18 x19 x20 x21 x22 x23 x8 w) : what1F W1 bl bpb bp b off card n cap what c (upd d 10) x13 x14 x15 x16 x17 x18 x19 x20 x21 x22 (.agg #[.int .i64 (c.of what).1, .int .i64 (c.of what).2]) x8 w := ⟨F.same, F.f0, F.f1, F.f2, F.f3, F.f4, F.f5, F.f6, F.f7, F.f8, F.f9, fun _ => rfl, F.f11, F.o12⟩
theorem what1F.below (F : what1F W1 bl bpb bp b off card n cap what c d x13 x14 x15 x16 x17 x18 x19 x20 x21 x22 x23 x8 w) (hb : Below w.heap.size w w') : what1F W1 bl bpb bp b off card n cap what c d x13 x14 x15 x16 x17 x18 x19 x20 x21 x22 x23 x8 w' := by
  refine ⟨F.same.trans (hb.mono F.same.size), F.f0, F.f1, F.f2, F.f3, F.f4, F.f5, F.f6, F.f7, F.f8, F.f9, F.f10, ?_, F.o12⟩
  · intro h
    obtain ⟨bq, h1, h2, h3⟩ := F.f11 h
    exact ⟨bq, h1, h2, (hb.block _ (heap_lt h3)).trans h3⟩
theorem what1F.s11 (F : what1F W1 bl bpb bp b off card n cap what c d x13 x14 x15 x16 x17 x18 x19 x20 x21 x22 x23 x8 w) (h12 : d 12 = false) : what1F W1 bl bpb bp b off card n cap what c (upd d 11) x13 x14 x15 x16 x17 x18 x19 x20 x21 x22 x23 (.pointer (some ⟨w.heap.size, 0, none⟩)) (w.alloc (.cells #[.int .i64 0, .int .i64 0] 24)) := by
  have G := F.below ((Below.refl _ w).alloc (Nat.le_refl _) (.cells #[.int .i64 0, .int .i64 0] 24))
  refine ⟨G.same, G.f0, G.f1, G.f2, G.f3, G.f4, G.f5, G.f6, G.f7, G.f8, G.f9, G.f10, ?_, fun h => (by have h2 : d 12 = true := h; rw [h12] at h2; cases h2)⟩
  intro _
  have e : upd d 11 12 = false := h12
  rw [e]
  exact ⟨_, rfl, F.same.size, World.alloc_heap_new w _⟩
theorem what1F.s12 (F : what1F W1 bl bpb bp b off card n cap what c d x13 x14 x15 x16 x17 x18 x19 x20 x21 x22 x23 x8 w) (h11 : d 11 = true) {bq : Nat} (hb : W1.heap.size ≤ bq) (hx : x8 = .pointer (some ⟨bq, 0, none⟩)) (hh : w.heap[bq]? = some (.cells #[.int .i64 0, .int .i64 0] 24 (0, 0))) : what1F W1 bl bpb bp b off card n cap what c (upd d 12) x13 x14 x15 x16 x17 x18 x19 x20 x21 x22 x23 x8 ((w.setCell ⟨bq, 0, none⟩ (.int .i64 (c.of what).1)).setCell ⟨bq, 1, none⟩ (.int .i64 (c.of what).2)) := by
  refine ⟨((F.same).setCell (p := ⟨bq, 0, none⟩) hb (.int .i64 (c.of what).1)).setCell (p := ⟨bq, 1, none⟩) hb (.int .i64 (c.of what).2), F.f0, F.f1, F.f2, F.f3, F.f4, F.f5, F.f6, F.f7, F.f8, F.f9, F.f10, ?_, fun _ => h11⟩
  intro _
  have e : upd d 12 12 = true := rfl
  rw [e]
  exact ⟨bq, hx, hb, (heap_setCell_at (k := 1) (heap_setCell_at (k := 0) hh (.int .i64 (c.of what).1)) (.int .i64 (c.of what).2))⟩
end
noncomputable def what1C : Code := (Try.f119.body.bind (regionAt 1)).getD .skip
set_option maxRecDepth 100000 in
set_option maxHeartbeats 4000000 in
theorem what1 {W1 : World} {bl bpb bp b off card n cap : Nat} {what : Bool} {c : Prt} {Q : Exit → Act → World → Prop} (hL : Hid (W1.cell? ⟨bl, 0, none⟩ = some (.func (.func (ofF what)) #[] #[]))) (hPb : Hid (W1.cell? ⟨bpb, 0, none⟩ = some (.pointer (some ⟨bp, 0, none⟩)))) (hS : Hid (W1.cell? ⟨bp, 0, none⟩ = some (.slice (some ⟨b, off, none⟩) n cap))) (hc : card < n) (hn : n ≤ 5)
    (hM : Hid (W1.cell? ⟨b, off + card * 5, none⟩ = some (.int .i64 c.slo) ∧ W1.cell? ⟨b, off + card * 5 + 1, none⟩ = some (.int .i64 c.shi) ∧ W1.cell? ⟨b, off + card * 5 + 2, none⟩ = some (.int .i64 c.wlo) ∧ W1.cell? ⟨b, off + card * 5 + 3, none⟩ = some (.int .i64 c.whi) ∧ W1.cell? ⟨b, off + card * 5 + 4, none⟩ = some (.int .i64 c.marks)))
    {s3 s4 s5 s6 s7 s8 s9 s10 s11 s12 s13 s14 s15 s16 s17 s18 s19 s20 s21 s22 s23 s24 s25 s26 s27 s28 s29 s30 s31 s32 s33 s34 s35 s36 s37 s38 s39 s40 s41 s42 s43 s44 s45 s46 s47 s48 s49 s50 s51 s52 s53 s54 s55 s56 s57 s58 s59 s60 s61 s62 s63 s64 s65 s66 s67 s68 : Value} {dd : List Deferred}
    (hQ : ∀ (x13 x14 x15 x16 x17 x18 x19 x20 x21 x22 x23 x8 : Value) (w' : World), Below W1.heap.size W1 w' → x13 = .pointer (some ⟨bl, 0, none⟩) → x14 = .func (.func (ofF what)) #[] #[] → x15 = .pointer (some ⟨bp, 0, none⟩) → x16 = .pointer (some ⟨bp, 0, none⟩) → x17 = .pointer (some ⟨bp, 0, none⟩) → x18 = .pointer (some ⟨bp, 0, none⟩) → x19 = .slice (some ⟨b, off, none⟩) n cap → x20 = .int .i64 card → x21 = .pointer (some ⟨b, off + card * 5, none⟩) → x22 = .agg c.arr → x23 = .agg #[.int .i64 (c.of what).1, .int .i64 (c.of what).2] → (∃ bq : Nat, x8 = .pointer (some ⟨bq, 0, none⟩) ∧ W1.heap.size ≤ bq ∧ w'.heap[bq]? = some (.cells #[.int .i64 (c.of what).1, .int .i64 (c.of what).2] 24 (0, 0))) → Q .normal { tmps := #[.int .i64 card, .pointer (some ⟨bl, 0, none⟩), .pointer (some ⟨bpb, 0, none⟩), s3, s4, s5, s6, s7, x8, s9, s10, s11, s12, x13, x14, x15, x16, x17, x18, x19, x20, x21, x22, x23, s24, s25, s26, s27, s28, s29, s30, s31, s32, s33, s34, s35, s36, s37, s38, s39, s40, s41, s42, s43, s44, s45, s46, s47, s48, s49, s50, s51, s52, s53, s54, s55, s56, s57, s58, s59, s60, s61, s62, s63, s64, s65, s66, s67, s68], defers := dd } w') :
    Code.wp Try.prog what1C Q { tmps := #[.int .i64 card, .pointer (some ⟨bl, 0, none⟩), .pointer (some ⟨bpb, 0, none⟩), s3, s4, s5, s6, s7, s8, s9, s10, s11, s12, s13, s14, s15, s16, s17, s18, s19, s20, s21, s22, s23, s24, s25, s26, s27, s28, s29, s30, s31, s32, s33, s34, s35, s36, s37, s38, s39, s40, s41, s42, s43, s44, s45, s46, s47, s48, s49, s50, s51, s52, s53, s54, s55, s56, s57, s58, s59, s60, s61, s62, s63, s64, s65, s66, s67, s68], defers := dd } W1 := by
  have HQ := Lib.hid hQ
  clear hQ
  conv => arg 2; whnf
  refine wp_region_inv mixed (by kernel_rfl) (fun d_ a_ w' => ∃ x13 x14 x15 x16 x17 x18 x19 x20 x21 x22 x23 x8, a_ = { tmps := #[.int .i64 card, .pointer (some ⟨bl, 0, none⟩), .pointer (some ⟨bpb, 0, none⟩), s3, s4, s5, s6, s7, x8, s9, s10, s11, s12, x13, x14, x15, x16, x17, x18, x19, x20, x21, x22, x23, s24, s25, s26, s27, s28, s29, s30, s31, s32, s33, s34, s35, s36, s37, s38, s39, s40, s41, s42, s43, s44, s45, s46, s47, s48, s49, s50, s51, s52, s53, s54, s55, s56, s57, s58, s59, s60, s61, s62, s63, s64, s65, s66, s67, s68], defers := dd } ∧ what1F W1 bl bpb bp b off card n cap what c d_ x13 x14 x15 x16 x17 x18 x19 x20 x21 x22 x23 x8 w') ?_ ?_ ?_
  · refine ⟨s13, s14, s15, s16, s17, s18, s19, s20, s21, s22, s23, s8, rfl, (Below.refl _ W1).drew, ?_, ?_, ?_, ?_, ?_, ?_, ?_, ?_, ?_, ?_, ?_, ?_, ?_⟩ <;> (intro h; cases h)
  · refine ⟨?_, ?_, ?_, ?_, ?_, ?_, ?_, ?_, ?_, ?_, ?_, ?_, ?_, trivial⟩
    all_goals
      rintro d_ a_ w1 K hd_ hdep ⟨x13, x14, x15, x16, x17, x18, x19, x20, x21, x22, x23, x8, rfl, F⟩ HK
      simp [Region.binds] at hdep
      have hb1 := F.same
    · have HF := Lib.hid F.s0
      clear F
      clear hb1
      go_simp
      exact HK.out _ _ ⟨_, _, _, _, _, _, _, _, _, _, _, _, rfl, HF.out⟩
    · obtain rfl := F.f0 (by simp [hdep])
      have k := cell_stays hb1 hL.out
      have HF := Lib.hid F.s1
      clear F
      clear hb1
      go_simp
      exact HK.out _ _ ⟨_, _, _, _, _, _, _, _, _, _, _, _, rfl, HF.out⟩
    · have k := cell_stays hb1 hPb.out
      have HF := Lib.hid F.s2
      clear F
      clear hb1
      go_simp
      exact HK.out _ _ ⟨_, _, _, _, _, _, _, _, _, _, _, _, rfl, HF.out⟩
    · obtain rfl := F.f2 (by simp [hdep])
      have HF := Lib.hid F.s3
      clear F
      clear hb1
      go_simp
      exact HK.out _ _ ⟨_, _, _, _, _, _, _, _, _, _, _, _, rfl, HF.out⟩
    · obtain rfl := F.f3 (by simp [hdep])
      have HF := Lib.hid F.s4
      clear F
      clear hb1
      go_simp
      exact HK.out _ _ ⟨_, _, _, _, _, _, _, _, _, _, _, _, rfl, HF.out⟩
    · obtain rfl := F.f4 (by simp [hdep])
      have HF := Lib.hid F.s5
      clear F
      clear hb1
      go_simp
      exact HK.out _ _ ⟨_, _, _, _, _, _, _, _, _, _, _, _, rfl, HF.out⟩
    · obtain rfl := F.f5 (by simp [hdep])
      have k := cell_stays hb1 hS.out
      have HF := Lib.hid F.s6
      clear F
      clear hb1
      go_simp
      exact HK.out _ _ ⟨_, _, _, _, _, _, _, _, _, _, _, _, rfl, HF.out⟩
    · have HF := Lib.hid F.s7
      clear F
      clear hb1
      go_simp
      exact HK.out _ _ ⟨_, _, _, _, _, _, _, _, _, _, _, _, rfl, HF.out⟩
    · obtain rfl := F.f6 (by simp [hdep])
      obtain rfl := F.f7 (by simp [hdep])
      have HF := Lib.hid F.s8
      clear F
      clear hb1
      go_simp
      exact HK.out _ _ ⟨_, _, _, _, _, _, _, _, _, _, _, _, rfl, HF.out⟩
    · obtain rfl := F.f8 (by simp [hdep])
      obtain ⟨m0, m1, m2, m3, m4⟩ := hM.out
      have k0 := cell_stays hb1 m0
      have k1 := cell_stays hb1 m1
      have k2 := cell_stays hb1 m2
      have k3 := cell_stays hb1 m3
      have k4 := cell_stays hb1 m4
      clear m0 m1 m2 m3 m4
      have HF := Lib.hid F.s9
      clear F
      clear hb1
      go_simp
      exact HK.out _ _ ⟨_, _, _, _, _, _, _, _, _, _, _, _, rfl, HF.out⟩
    · obtain rfl := F.f1 (by simp [hdep])
      obtain rfl := F.f9 (by simp [hdep])
      have hcf := cfOf what
      have HF := Lib.hid F
      clear F
      go_simp
      refine (of_any what c w1).mono ?_
      rintro e w5 ⟨rfl, hb5⟩
      exact HK.out _ _ ⟨_, _, _, _, _, _, _, _, _, _, _, _, rfl, (HF.out.below hb5).s10⟩
    · have n12 : d_ 12 = false := by
        cases e : d_ 12 with
        | false => rfl
        | true => have h2 := F.o12 e; exact absurd (show d_ 11 = false from hd_) (by rw [h2]; simp)
      have HF := Lib.hid (F.s11 n12)
      clear F hb1
      go_simp
      exact HK.out _ _ ⟨_, _, _, _, _, _, _, _, _, _, _, _, rfl, HF.out⟩
    · obtain rfl := F.f10 (by simp [hdep])
      have ha11 : d_ 11 = true := by simp [hdep]
      obtain ⟨bq, hx, hWb, hh⟩ := F.f11 ha11
      have hds : d_ 12 = false := hd_
      rw [hds] at hh
      have hh' : w1.heap[bq]? = some (.cells #[.int .i64 0, .int .i64 0] 24 (0, 0)) := hh
      have z0 : ∀ k, w1.frozen? ⟨bq, k, none⟩ = false := fun k => frozen_of_heap hh'
      have zc0 : ∃ v, w1.cell? ⟨bq, 0, none⟩ = some v := ⟨_, by rw [cell_of_heap hh']; rfl⟩
      obtain ⟨vc0, zc0⟩ := zc0
      have zc1 : ∃ v, w1.cell? ⟨bq, 1, none⟩ = some v := ⟨_, by rw [cell_of_heap hh']; rfl⟩
      obtain ⟨vc1, zc1⟩ := zc1
      have HF := Lib.hid (F.s12 ha11 hWb hx hh')
      clear F hh hh' hb1
      subst hx
      go_simp
      exact HK.out _ _ ⟨_, _, _, _, _, _, _, _, _, _, _, _, rfl, HF.out⟩
  · rintro d_ a_ w1 hall ⟨x13, x14, x15, x16, x17, x18, x19, x20, x21, x22, x23, x8, rfl, F⟩
    have hall' : ∀ k, k < 13 → d_ k = true := hall
    have E11 := F.f11 (hall' 11 (by decide))
    rw [hall' 12 (by decide)] at E11
    exact HQ.out _ _ _ _ _ _ _ _ _ _ _ _ w1 F.same (F.f0 (hall' 0 (by decide))) (F.f1 (hall' 1 (by decide))) (F.f2 (hall' 2 (by decide))) (F.f3 (hall' 3 (by decide))) (F.f4 (hall' 4 (by decide))) (F.f5 (hall' 5 (by decide))) (F.f6 (hall' 6 (by decide))) (F.f7 (hall' 7 (by decide))) (F.f8 (hall' 8 (by decide))) (F.f9 (hall' 9 (by decide))) (F.f10 (hall' 10 (by decide))) E11
end Go.Proofs.Ytnfhlbmapfoifaa
namespace Go.Proofs.Ytnfhlbmapfoifaa
open Go.RowKit
set_option linter.unusedVariables false
/-- No more cards than so many come from a card, one from the other. -/
def Dep (wl : List Int) : Nat → Nat → Prop
  | 0, _ => False
  | d + 1, card => ∀ j : Nat, j < wl.length → gi wl j = (card : Int) → Dep wl d j
theorem not_dep {wl : List Int} : ∀ (d card : Nat), ¬ Dep wl (d + 1) card → ∃ j : Nat, j < wl.length ∧ upW wl (d + 1) (j : Int) = (card : Int)
  | 0, card, h => by
    apply Classical.byContradiction
    intro hno
    exact h (fun j hj he => (hno ⟨j, hj, by simp [upW]; exact he⟩).elim)
  | d + 1, card, h => by
    apply Classical.byContradiction
    intro hno
    refine h (fun j hj he => Classical.byContradiction fun hd => ?_)
    obtain ⟨i, hi, hu⟩ := not_dep d j hd
    refine hno ⟨i, hi, ?_⟩
    rw [upW_snoc, hu, if_neg (by omega)]
    exact he
theorem dep_succ {wl : List Int} : ∀ (d card : Nat), Dep wl d card → Dep wl (d + 1) card
  | 0, _, h => h.elim
  | d + 1, _, h => fun j hj he => dep_succ d j (h j hj he)
theorem dep_of {wl : List Int} (h : roundB wl = false) {card : Nat} (hc : card < wl.length) : Dep wl (wl.length + 1) card := by
  apply dep_succ
  obtain ⟨L, hL⟩ : ∃ L, wl.length = L + 1 := ⟨wl.length - 1, by omega⟩
  apply Classical.byContradiction
  intro hd
  rw [hL] at hd
  obtain ⟨j, hj, hu⟩ := not_dep L card hd
  have := roundB_false.1 h j hj
  rw [hL, hu] at this
  omega
theorem goW_bd {by_ : Int × Int} {rec : Nat → (Int × Int) × Bool} {wl : List Int} {card : Nat} {B D : Int} (hb1 : 0 ≤ by_.1 ∧ by_.1 ≤ 16384) (hb2 : 0 ≤ by_.2 ∧ by_.2 ≤ 16384) (hD : D + 16384 ≤ B) :
    ∀ (l : List Nat) (own : Int × Int), (∀ j ∈ l, 0 ≤ (rec j).1.1 ∧ (rec j).1.1 ≤ D ∧ 0 ≤ (rec j).1.2) → 0 ≤ own.1 ∧ own.1 ≤ B → 0 ≤ own.2 ∧ own.2 ≤ 16384 →
    0 ≤ (goW by_ rec wl card own l).1.1 ∧ (goW by_ rec wl card own l).1.1 ≤ B ∧ 0 ≤ (goW by_ rec wl card own l).1.2 ∧ (goW by_ rec wl card own l).1.2 ≤ 16384
  | [], own, _, h1, h2 => ⟨h1.1, h1.2, h2.1, h2.2⟩
  | j :: l, own, hr, h1, h2 => by
    have hj := hr j (by simp)
    unfold goW
    split
    · dsimp only
      split
      · exact goW_bd hb1 hb2 hD l _ (fun k hk => hr k (by simp [hk])) ⟨by dsimp only; omega, by dsimp only; omega⟩ ⟨by dsimp only; omega, by dsimp only; omega⟩
      · exact ⟨h1.1, h1.2, h2.1, h2.2⟩
    · exact goW_bd hb1 hb2 hD l _ (fun k hk => hr k (by simp [hk])) h1 h2
theorem valid_parts {p : Prs} (hv : p.valid = true) : p.cards.length ≤ 5 ∧ (∀ k, k < p.cards.length → (gp p.cards k).ok = true) ∧ spanOk p.llo p.lhi = true ∧ spanOk p.olo p.ohi = true := by
  unfold Prs.valid at hv
  simp only [Bool.and_eq_true, List.all_eq_true, decide_eq_true_eq] at hv
  exact ⟨hv.1.1.1, fun k hk => by simpa [gp, hk] using hv.1.1.2 (p.cards[k]) (by simp), hv.1.2, hv.2⟩
theorem span_bd {lo hi : Int} (h : spanOk lo hi = true) : (0 ≤ lo ∧ lo ≤ 16384) ∧ (0 ≤ hi ∧ hi ≤ 16384) := by
  unfold spanOk at h
  simp only [Bool.and_eq_true, decide_eq_true_eq] at h
  omega
theorem by_bd {p : Prs} (hv : p.valid = true) (what : Bool) : (0 ≤ (p.by_ what).1 ∧ (p.by_ what).1 ≤ 16384) ∧ (0 ≤ (p.by_ what).2 ∧ (p.by_ what).2 ≤ 16384) := by
  obtain ⟨_, _, h3, h4⟩ := valid_parts hv
  cases what
  · exact span_bd h3
  · exact span_bd h4
theorem of_bd {p : Prs} (hv : p.valid = true) (what : Bool) {k : Nat} (hk : k < p.cards.length) : (0 ≤ ((gp p.cards k).of what).1 ∧ ((gp p.cards k).of what).1 ≤ 16384) ∧ (0 ≤ ((gp p.cards k).of what).2 ∧ ((gp p.cards k).of what).2 ≤ 16384) := by
  have h := (valid_parts hv).2.1 k hk
  unfold Prt.ok at h
  simp only [Bool.and_eq_true] at h
  cases what
  · exact span_bd h.1.1
  · exact span_bd h.1.2
theorem whatF_bd {p : Prs} (hv : p.valid = true) {wl : List Int} (hl : wl.length = p.cards.length) (what : Bool) : ∀ (d card : Nat), card < p.cards.length →
    0 ≤ (whatF p wl what d card).1.1 ∧ (whatF p wl what d card).1.1 ≤ 16384 * d ∧ 0 ≤ (whatF p wl what d card).1.2 ∧ (whatF p wl what d card).1.2 ≤ 16384
  | 0, card, _ => by simp [whatF]
  | d + 1, card, hc => by
    have ho := of_bd hv what hc
    have hb := by_bd hv what
    exact goW_bd (D := 16384 * d) hb.1 hb.2 (by omega) _ _ (fun j hj => by
      have := whatF_bd hv hl what d j (by rw [← hl]; exact List.mem_range.1 hj)
      exact ⟨this.1, this.2.1, this.2.2.1⟩) ⟨by omega, by omega⟩ ⟨by omega, by omega⟩
theorem drop_range {L j : Nat} (h : j < L) : (List.range L).drop j = j :: (List.range L).drop (j + 1) := by
  rw [List.drop_eq_getElem_cons (by simpa using h)]
  simp
theorem goW_skip (by_ : Int × Int) (rec : Nat → (Int × Int) × Bool) (wl : List Int) (card : Nat) (own : Int × Int) {j L : Nat} (h : j < L) (hne : gi wl j ≠ (card : Int)) :
    goW by_ rec wl card own ((List.range L).drop j) = goW by_ rec wl card own ((List.range L).drop (j + 1)) := by
  rw [drop_range h]; simp [goW, hne]
theorem goW_no (by_ : Int × Int) (rec : Nat → (Int × Int) × Bool) (wl : List Int) (card : Nat) (own : Int × Int) {j L : Nat} (h : j < L) (he : gi wl j = (card : Int)) (hs : (rec j).2 = false) :
    goW by_ rec wl card own ((List.range L).drop j) = (own, false) := by
  rw [drop_range h]; simp [goW, he, hs]
theorem goW_yes (by_ : Int × Int) (rec : Nat → (Int × Int) × Bool) (wl : List Int) (card : Nat) (own : Int × Int) {j L : Nat} (h : j < L) (he : gi wl j = (card : Int)) (hs : (rec j).2 = true) :
    goW by_ rec wl card own ((List.range L).drop j) = goW by_ rec wl card (max own.1 ((rec j).1.1 + by_.1), min own.2 ((rec j).1.2 + by_.2)) ((List.range L).drop (j + 1)) := by
  rw [drop_range h]; simp [goW, he, hs]
theorem goW_end (by_ : Int × Int) (rec : Nat → (Int × Int) × Bool) (wl : List Int) (card : Nat) (own : Int × Int) (L : Nat) : goW by_ rec wl card own ((List.range L).drop L) = (own, decide (own.1 ≤ own.2)) := by
  rw [List.drop_of_length_le (by simp)]; rfl
end Go.Proofs.Ytnfhlbmapfoifaa
namespace Go.Proofs.Ytnfhlbmapfoifaa
open Go.RowKit
set_option linter.unusedVariables false
noncomputable def what11C : Code := (Try.f119.body.bind (regionAt 11)).getD .skip
structure EndW (W1 : World) (bq b6 : Nat) (lo hi : Int) (d : Nat → Bool) (x63 x64 x65 x66 x67 x68 x7 : Value) (w : World) : Prop where
  same : Same (fun k => k = b6) W1 w
  f0 : d 0 = true → x63 = .agg #[.int .i64 lo, .int .i64 hi]
  f1 : d 1 = true → x64 = .pointer (some ⟨bq, 0, none⟩)
  f2 : d 2 = true → x65 = .int .i64 lo
  f3 : d 3 = true → x66 = .pointer (some ⟨bq, 1, none⟩)
  f4 : d 4 = true → x67 = .int .i64 hi
  f5 : d 5 = true → x68 = .bool (decide (lo ≤ hi))
  f7 : d 7 = true → x7 = .bool (decide (lo ≤ hi))
  k6 : w.heap[b6]? = some (.cells (if d 6 then #[.int .i64 lo, .int .i64 hi] else #[.int .i64 0, .int .i64 0]) 24 (0, 0))
set_option maxRecDepth 100000 in
set_option maxHeartbeats 2000000 in
theorem what11 {W1 : World} {bq b6 : Nat} {lo hi : Int} {Q : Exit → Act → World → Prop} (hne : bq ≠ b6) (hq : Hid (W1.heap[bq]? = some (.cells #[.int .i64 lo, .int .i64 hi] 24 (0, 0)))) (h6 : Hid (W1.heap[b6]? = some (.cells #[.int .i64 0, .int .i64 0] 24 (0, 0))))
    {s0 s1 s2 s3 s4 s5 s7 s9 s10 s11 s12 s13 s14 s15 s16 s17 s18 s19 s20 s21 s22 s23 s24 s25 s26 s27 s28 s29 s30 s31 s32 s33 s34 s35 s36 s37 s38 s39 s40 s41 s42 s43 s44 s45 s46 s47 s48 s49 s50 s51 s52 s53 s54 s55 s56 s57 s58 s59 s60 s61 s62 s63 s64 s65 s66 s67 s68 : Value} {dd : List Deferred}
    (hQ : ∀ (x63 x64 x65 x66 x67 x68 x7 : Value) (w' : World), Same (fun k => k = b6) W1 w' → x7 = .bool (decide (lo ≤ hi)) → w'.heap[b6]? = some (.cells #[.int .i64 lo, .int .i64 hi] 24 (0, 0)) → Q .normal { tmps := #[s0, s1, s2, s3, s4, s5, .pointer (some ⟨b6, 0, none⟩), x7, .pointer (some ⟨bq, 0, none⟩), s9, s10, s11, s12, s13, s14, s15, s16, s17, s18, s19, s20, s21, s22, s23, s24, s25, s26, s27, s28, s29, s30, s31, s32, s33, s34, s35, s36, s37, s38, s39, s40, s41, s42, s43, s44, s45, s46, s47, s48, s49, s50, s51, s52, s53, s54, s55, s56, s57, s58, s59, s60, s61, s62, x63, x64, x65, x66, x67, x68], defers := dd } w') :
    Code.wp Try.prog what11C Q { tmps := #[s0, s1, s2, s3, s4, s5, .pointer (some ⟨b6, 0, none⟩), s7, .pointer (some ⟨bq, 0, none⟩), s9, s10, s11, s12, s13, s14, s15, s16, s17, s18, s19, s20, s21, s22, s23, s24, s25, s26, s27, s28, s29, s30, s31, s32, s33, s34, s35, s36, s37, s38, s39, s40, s41, s42, s43, s44, s45, s46, s47, s48, s49, s50, s51, s52, s53, s54, s55, s56, s57, s58, s59, s60, s61, s62, s63, s64, s65, s66, s67, s68], defers := dd } W1 := by
  have HQ := Lib.hid hQ
  clear hQ
  conv => arg 2; whnf
  refine wp_region_inv' mixed (by kernel_rfl) (fun d_ a_ w' => ∃ x63 x64 x65 x66 x67 x68 x7, a_ = { tmps := #[s0, s1, s2, s3, s4, s5, .pointer (some ⟨b6, 0, none⟩), x7, .pointer (some ⟨bq, 0, none⟩), s9, s10, s11, s12, s13, s14, s15, s16, s17, s18, s19, s20, s21, s22, s23, s24, s25, s26, s27, s28, s29, s30, s31, s32, s33, s34, s35, s36, s37, s38, s39, s40, s41, s42, s43, s44, s45, s46, s47, s48, s49, s50, s51, s52, s53, s54, s55, s56, s57, s58, s59, s60, s61, s62, x63, x64, x65, x66, x67, x68], defers := dd } ∧ EndW W1 bq b6 lo hi d_ x63 x64 x65 x66 x67 x68 x7 w') ?_ ?_ ?_
  · exact ⟨s63, s64, s65, s66, s67, s68, s7, rfl, (Same.refl _ W1).drew, (fun h => by cases h), (fun h => by cases h), (fun h => by cases h), (fun h => by cases h), (fun h => by cases h), (fun h => by cases h), (fun h => by cases h), h6.out⟩
  · refine ⟨?_, ?_, ?_, ?_, ?_, ?_, ?_, ?_, trivial⟩
    all_goals
      rintro d_ a_ w1 K hd_ hdep ⟨x63, x64, x65, x66, x67, x68, x7, rfl, F⟩ HK
      simp [Region.binds] at hdep
      have hq1 : w1.heap[bq]? = some (.cells #[.int .i64 lo, .int .i64 hi] 24 (0, 0)) := (F.same.block bq (heap_lt hq.out) hne).trans hq.out
      have k0 : w1.cell? ⟨bq, 0, none⟩ = some (.int .i64 lo) := by rw [cell_of_heap hq1]; rfl
      have k1 : w1.cell? ⟨bq, 1, none⟩ = some (.int .i64 hi) := by rw [cell_of_heap hq1]; rfl
      clear hq1
    · have HF : Hid (EndW W1 bq b6 lo hi (upd d_ 0) (.agg #[.int .i64 lo, .int .i64 hi]) x64 x65 x66 x67 x68 x7 w1) := ⟨F.same, fun _ => rfl, F.f1, F.f2, F.f3, F.f4, F.f5, F.f7, F.k6⟩
      clear F
      go_simp
      exact HK.out _ _ ⟨_, _, _, _, _, _, _, rfl, HF.out⟩
    · have HF : Hid (EndW W1 bq b6 lo hi (upd d_ 1) x63 (.pointer (some ⟨bq, 0, none⟩)) x65 x66 x67 x68 x7 w1) := ⟨F.same, F.f0, fun _ => rfl, F.f2, F.f3, F.f4, F.f5, F.f7, F.k6⟩
      clear F
      go_simp
      exact HK.out _ _ ⟨_, _, _, _, _, _, _, rfl, HF.out⟩
    · obtain rfl := F.f1 (by simp [hdep])
      have HF : Hid (EndW W1 bq b6 lo hi (upd d_ 2) x63 (.pointer (some ⟨bq, 0, none⟩)) (.int .i64 lo) x66 x67 x68 x7 w1) := ⟨F.same, F.f0, F.f1, fun _ => rfl, F.f3, F.f4, F.f5, F.f7, F.k6⟩
      clear F
      go_simp
      exact HK.out _ _ ⟨_, _, _, _, _, _, _, rfl, HF.out⟩
    · have HF : Hid (EndW W1 bq b6 lo hi (upd d_ 3) x63 x64 x65 (.pointer (some ⟨bq, 1, none⟩)) x67 x68 x7 w1) := ⟨F.same, F.f0, F.f1, F.f2, fun _ => rfl, F.f4, F.f5, F.f7, F.k6⟩
      clear F
      go_simp
      exact HK.out _ _ ⟨_, _, _, _, _, _, _, rfl, HF.out⟩
    · obtain rfl := F.f3 (by simp [hdep])
      have HF : Hid (EndW W1 bq b6 lo hi (upd d_ 4) x63 x64 x65 (.pointer (some ⟨bq, 1, none⟩)) (.int .i64 hi) x68 x7 w1) := ⟨F.same, F.f0, F.f1, F.f2, F.f3, fun _ => rfl, F.f5, F.f7, F.k6⟩
      clear F
      go_simp
      exact HK.out _ _ ⟨_, _, _, _, _, _, _, rfl, HF.out⟩
    · obtain rfl := F.f2 (by simp [hdep])
      obtain rfl := F.f4 (by simp [hdep])
      have HF : Hid (EndW W1 bq b6 lo hi (upd d_ 5) x63 x64 (.int .i64 lo) x66 (.int .i64 hi) (.bool (decide (lo ≤ hi))) x7 w1) := ⟨F.same, F.f0, F.f1, F.f2, F.f3, F.f4, fun _ => rfl, F.f7, F.k6⟩
      clear F
      go_simp
      exact HK.out _ _ ⟨_, _, _, _, _, _, _, rfl, HF.out⟩
    · obtain rfl := F.f0 (by simp [hdep])
      have hk := F.k6
      have h6f : d_ 6 = false := hd_
      rw [h6f] at hk
      have hk' : w1.heap[b6]? = some (.cells #[.int .i64 0, .int .i64 0] 24 (0, 0)) := hk
      have z0 : w1.cell? ⟨b6, 0, none⟩ = some (.int .i64 0) := by rw [cell_of_heap hk']; rfl
      have z1 : w1.cell? ⟨b6, 1, none⟩ = some (.int .i64 0) := by rw [cell_of_heap hk']; rfl
      have zf : ∀ k, w1.frozen? ⟨b6, k, none⟩ = false := fun k => frozen_of_heap hk'
      have HF : Hid (EndW W1 bq b6 lo hi (upd d_ 6) (.agg #[.int .i64 lo, .int .i64 hi]) x64 x65 x66 x67 x68 x7 ((w1.setCell ⟨b6, 0, none⟩ (.int .i64 lo)).setCell ⟨b6, 1, none⟩ (.int .i64 hi))) :=
        ⟨(F.same.setCell (.inl rfl) _).setCell (.inl rfl) _, F.f0, F.f1, F.f2, F.f3, F.f4, F.f5, F.f7, heap_setCell_at (k := 1) (heap_setCell_at (k := 0) hk' (.int .i64 lo)) (.int .i64 hi)⟩
      clear F hk hk'
      go_simp
      exact HK.out _ _ ⟨_, _, _, _, _, _, _, rfl, HF.out⟩
    · obtain rfl := F.f5 (by simp [hdep])
      have HF : Hid (EndW W1 bq b6 lo hi (upd d_ 7) x63 x64 x65 x66 x67 (.bool (decide (lo ≤ hi))) (.bool (decide (lo ≤ hi))) w1) := ⟨F.same, F.f0, F.f1, F.f2, F.f3, F.f4, fun _ => rfl, fun _ => rfl, F.k6⟩
      clear F
      go_simp
      exact HK.out _ _ ⟨_, _, _, _, _, _, _, rfl, HF.out⟩
  · rintro d_ a_ w1 hall ⟨x63, x64, x65, x66, x67, x68, x7, rfl, F⟩
    have hall' : ∀ k, k < 8 → d_ k = true := hall
    have hk := F.k6
    rw [hall' 6 (by decide)] at hk
    exact HQ.out _ _ _ _ _ _ _ w1 F.same (F.f7 (hall' 7 (by decide))) hk
set_option maxRecDepth 100000 in
set_option maxHeartbeats 4000000 in
theorem what_any {p : Prs} {a : Option Addr} {cap bp g bl bpb bw bs : Nat} {what : Bool} {wl : List Int} {aw : Option Addr} {cw : Nat} (hv : p.valid = true) (hl : wl.length = p.cards.length) :
    ∀ (d card : Nat) (w : World), Dep wl d card → card < p.cards.length → d ≤ 6 → WhatW w bl bpb bw bs what p a cap bp g wl aw cw →
      Calls Try.prog 119 #[.int .i64 card, .pointer (some ⟨bl, 0, none⟩), .pointer (some ⟨bpb, 0, none⟩), .pointer (some ⟨bw, 0, none⟩), .pointer (some ⟨bs, 0, none⟩)] w fun e w' =>
        e = .returned (.tuple #[.agg #[.int .i64 (whatF p wl what d card).1.1, .int .i64 (whatF p wl what d card).1.2], .bool (whatF p wl what d card).2]) ∧ Below w.heap.size w w' := by
  intro d
  induction d with
  | zero => intro card w h; exact h.elim
  | succ d ih =>
    intro card w hdep hc hd6 hW
    have hn5 := (valid_parts hv).1
    obtain ⟨hby1, hby2⟩ := by_bd hv what
    obtain ⟨ho1, ho2⟩ := of_bd hv what hc
    have HIH := Lib.hid ih
    have HV := Lib.hid (And.intro hv (And.intro hl hdep))
    obtain ⟨R, hR⟩ : ∃ R, whatF p wl what (d + 1) card = R := ⟨_, rfl⟩
    have HR : Hid (R = goW (p.by_ what) (whatF p wl what d) wl card ((gp p.cards card).of what) (List.range wl.length)) := hR.symm
    have HRB : Hid (0 ≤ R.1.1 ∧ 0 ≤ R.1.2) := by have := whatF_bd hv hl what (d + 1) card hc; rw [hR] at this; exact ⟨this.1, this.2.2.1⟩
    rw [hR]
    have hll : wl.length ≤ 5 := by omega
    clear hR ih hdep hl hv
    have HWW : Hid (∀ v, Below w.heap.size w v → WhatW v bl bpb bw bs what p a cap bp g wl aw cw) := fun v hb => hW.mono hb
    obtain ⟨b, off, ha, m0, m1, m2, m3, m4⟩ := hW.hP.ha card hc
    obtain ⟨q0, _⟩ := hW.hP.cells
    have hL : w.cell? ⟨bl, 0, none⟩ = some (.func (.func (ofF what)) #[] #[]) := by rw [cell_of_heap hW.hl]; rfl
    have hPb : w.cell? ⟨bpb, 0, none⟩ = some (.pointer (some ⟨bp, 0, none⟩)) := by rw [cell_of_heap hW.hp]; rfl
    have hb1 : Below w.heap.size w (w.alloc (.cells #[.int .i64 0, .int .i64 0] 24)) := (Below.refl _ w).alloc (Nat.le_refl _) _
    have hn1 := World.alloc_heap_new w (.cells #[.int .i64 0, .int .i64 0] 24)
    have HL : Hid ((w.alloc (.cells #[.int .i64 0, .int .i64 0] 24)).cell? ⟨bl, 0, none⟩ = some (.func (.func (ofF what)) #[] #[])) := cell_stays hb1 hL
    have HPb : Hid ((w.alloc (.cells #[.int .i64 0, .int .i64 0] 24)).cell? ⟨bpb, 0, none⟩ = some (.pointer (some ⟨bp, 0, none⟩))) := cell_stays hb1 hPb
    rw [ha] at q0
    have HS : Hid ((w.alloc (.cells #[.int .i64 0, .int .i64 0] 24)).cell? ⟨bp, 0, none⟩ = some (.slice (some ⟨b, off, none⟩) p.cards.length cap)) := cell_stays hb1 q0
    have HM : Hid ((w.alloc (.cells #[.int .i64 0, .int .i64 0] 24)).cell? ⟨b, off + card * 5, none⟩ = some (.int .i64 (gp p.cards card).slo) ∧ (w.alloc (.cells #[.int .i64 0, .int .i64 0] 24)).cell? ⟨b, off + card * 5 + 1, none⟩ = some (.int .i64 (gp p.cards card).shi) ∧ (w.alloc (.cells #[.int .i64 0, .int .i64 0] 24)).cell? ⟨b, off + card * 5 + 2, none⟩ = some (.int .i64 (gp p.cards card).wlo) ∧ (w.alloc (.cells #[.int .i64 0, .int .i64 0] 24)).cell? ⟨b, off + card * 5 + 3, none⟩ = some (.int .i64 (gp p.cards card).whi) ∧ (w.alloc (.cells #[.int .i64 0, .int .i64 0] 24)).cell? ⟨b, off + card * 5 + 4, none⟩ = some (.int .i64 (gp p.cards card).marks)) :=
      ⟨cell_stays hb1 m0, cell_stays hb1 m1, cell_stays hb1 m2, cell_stays hb1 m3, cell_stays hb1 m4⟩
    have HB1 := Lib.hid (And.intro hb1 hn1)
    clear hW ha m0 m1 m2 m3 m4 q0 hL hPb hb1 hn1
    go_enter Try.func119, Try.ntmps119
    go_wp2_with fail
    revert HB1 HL HPb HS HM
    generalize (w.alloc (.cells #[.int .i64 0, .int .i64 0] 24)) = w1
    intro HL HPb HS HM HB1
    refine what1 HL HPb HS hc hn5 HM ?_
    intro x13 x14 x15 x16 x17 x18 x19 x20 x21 x22 x23 x8 w2 hb2 e13 e14 e15 e16 e17 e18 e19 e20 e21 e22 e23 ⟨bq, e8, hbq, hq⟩
    subst e8
    clear e13 e14 e15 e16 e17 e18 e19 e20 e21 e22 e23
    have hB2 : Below w.heap.size w w2 := HB1.out.1.trans (hb2.mono HB1.out.1.size)
    have h6 : w2.heap[w.heap.size]? = some (.cells #[.int .i64 0, .int .i64 0] 24 (0, 0)) := (hb2.block _ (heap_lt HB1.out.2)).trans HB1.out.2
    have hne : w.heap.size ≠ bq := by have := heap_lt HB1.out.2; omega
    have hbqw : w.heap.size ≤ bq := by have := HB1.out.1.size; omega
    have HQ := Lib.hid (And.intro hq (And.intro h6 hB2))
    have hww := HWW.out w2 hB2
    have cw0 : w2.cell? ⟨bw, 0, none⟩ = some (.slice aw wl.length cw) := by rw [cell_of_heap hww.hw]; rfl
    clear hq h6 hB2 hww hb2 HL HPb HS HM HB1
    go_wp2_with fail
    clear cw0
    go_loopw [26] (fun i wr => ∃ (j : Nat) (lo hi : Int), j ≤ wl.length ∧ i = .int .i64 j ∧ Below w.heap.size w wr ∧ Hid (wr.heap[bq]? = some (.cells #[.int .i64 lo, .int .i64 hi] 24 (0, 0))) ∧ Hid (wr.heap[w.heap.size]? = some (.cells #[.int .i64 0, .int .i64 0] 24 (0, 0))) ∧
      Hid (R = goW (p.by_ what) (whatF p wl what d) wl card (lo, hi) ((List.range wl.length).drop j)) ∧ 0 ≤ lo ∧ lo ≤ 1000000 ∧ 0 ≤ hi ∧ hi ≤ 1000000) (fun i _ => wl.length - (intOf i).toNat)
    case atStart => exact ⟨0, _, _, by omega, rfl, HQ.out.2.2, HQ.out.1, HQ.out.2.1, HR.out, by omega, by omega, by omega, by omega⟩
    case round =>
      obtain ⟨j, lo, hi, hj, rfl, hbr, HBQ, HB6, HG, hlo0, hlo1, hhi0, hhi1⟩ := hrel
      have hww := HWW.out wr hbr
      have cb0 : wr.cell? ⟨bq, 0, none⟩ = some (.int .i64 lo) := by rw [cell_of_heap HBQ.out]; rfl
      have cb1 : wr.cell? ⟨bq, 1, none⟩ = some (.int .i64 hi) := by rw [cell_of_heap HBQ.out]; rfl
      by_cases hlt : j < wl.length
      · obtain ⟨b2, o2, haw, hwj⟩ := hww.hi j hlt
        subst haw
        have hs4 : wr.cell? ⟨bs, 0, none⟩ = some (.func (.func 119) #[] #[.pointer (some ⟨bl, 0, none⟩), .pointer (some ⟨bpb, 0, none⟩), .pointer (some ⟨bw, 0, none⟩), .pointer (some ⟨bs, 0, none⟩)]) := by rw [cell_of_heap hww.hs]; rfl
        by_cases he : gi wl j = (card : Int)
        · have heb : (gi wl j == (card : Int)) = true := by simpa using he
          have heb' : (gi wl j != (card : Int)) = false := by simpa using he
          have hjn : j < p.cards.length := by have := HV.out.2.1; omega
          have hcall := HIH.out j wr (HV.out.2.2 j hlt he) hjn (by omega) hww
          have hbd := whatF_bd HV.out.1 HV.out.2.1 what d j hjn
          obtain ⟨S, hS⟩ : ∃ S, whatF p wl what d j = S := ⟨_, rfl⟩
          rw [hS] at hcall hbd
          have HE := Lib.hid (And.intro he hS)
          obtain ⟨⟨slo, shi⟩, sok⟩ := S
          obtain ⟨hs0, hs1, hs2, hs3⟩ := hbd
          dsimp only at hs0 hs1 hs2 hs3 hcall
          clear he hS hww
          go_wp2_with fail
          (with_reducible refine hcall.mono ?_)
          clear hcall
          rintro e w5 ⟨rfl, hb5⟩
          have hB5 : Below w.heap.size w w5 := hbr.trans (hb5.mono hbr.size)
          have HBQ5 : Hid (w5.heap[bq]? = some (.cells #[.int .i64 lo, .int .i64 hi] 24 (0, 0))) := (hb5.block _ (heap_lt HBQ.out)).trans HBQ.out
          have HB65 : Hid (w5.heap[w.heap.size]? = some (.cells #[.int .i64 0, .int .i64 0] 24 (0, 0))) := (hb5.block _ (heap_lt HB6.out)).trans HB6.out
          clear cb0 cb1 hb5 hs4 hwj
          go_upto_region 7 with fail
          have ha5 : Below w5.heap.size w5 (w5.alloc (.cells #[.int .i64 slo, .int .i64 shi] 24)) := (Below.refl _ w5).alloc (Nat.le_refl _) _
          have hn11 := World.alloc_heap_new w5 (.cells #[.int .i64 slo, .int .i64 shi] 24)
          have hlq := heap_lt HBQ5.out
          have hl6 := heap_lt HB65.out
          revert ha5 hn11
          generalize (w5.alloc (.cells #[.int .i64 slo, .int .i64 shi] 24)) = w6
          intro ha5 hn11
          have hB6w : Below w.heap.size w w6 := hB5.trans (ha5.mono hB5.size)
          have hq6 := (ha5.block _ hlq).trans HBQ5.out
          have hr6 := (ha5.block _ hl6).trans HB65.out
          have hww := HWW.out w6 hB6w
          have cb0 : w6.cell? ⟨bq, 0, none⟩ = some (.int .i64 lo) := by rw [cell_of_heap hq6]; rfl
          have cb1 : w6.cell? ⟨bq, 1, none⟩ = some (.int .i64 hi) := by rw [cell_of_heap hq6]; rfl
          have fb : ∀ k, w6.frozen? ⟨bq, k, none⟩ = false := fun k => frozen_of_heap hq6
          have cr0 : w6.cell? ⟨w.heap.size, 0, none⟩ = some (.int .i64 0) := by rw [cell_of_heap hr6]; rfl
          have cr1 : w6.cell? ⟨w.heap.size, 1, none⟩ = some (.int .i64 0) := by rw [cell_of_heap hr6]; rfl
          have fr : ∀ k, w6.frozen? ⟨w.heap.size, k, none⟩ = false := fun k => frozen_of_heap hr6
          have cn0 : w6.cell? ⟨w5.heap.size, 0, none⟩ = some (.int .i64 slo) := by rw [cell_of_heap hn11]; rfl
          have cn1 : w6.cell? ⟨w5.heap.size, 1, none⟩ = some (.int .i64 shi) := by rw [cell_of_heap hn11]; rfl
          have cl1 : w6.cell? ⟨bl, 1, none⟩ = some (.int .i64 (p.by_ what).1) := by rw [cell_of_heap hww.hl]; rfl
          have cl2 : w6.cell? ⟨bl, 2, none⟩ = some (.int .i64 (p.by_ what).2) := by rw [cell_of_heap hww.hl]; rfl
          have HF := Lib.hid (And.intro hB6w (And.intro hq6 hr6))
          clear ha5 hn11 hww hB6w hq6 hr6 hB5
          cases sok with
          | false =>
            have HD := Lib.hid (goW_no (p.by_ what) (whatF p wl what d) wl card (lo, hi) hlt HE.out.1 (by rw [HE.out.2]))
            clear cn0 cn1 cl1 cl2
            go_wp2_with fail
            have hR' : R = ((lo, hi), false) := by rw [HG.out, HD.out]
            subst hR'
            have hset := heap_setCell_at (k := 1) (heap_setCell_at (k := 0) HF.out.2.2 (.int .i64 lo)) (.int .i64 hi)
            refine bodyPost_ret (v := .tuple #[.agg #[.int .i64 lo, .int .i64 hi], .bool false]) (res_c24t rfl _ rfl rfl (by rw [cell_of_heap hset]; rfl) (by rw [cell_of_heap hset]; rfl)) rfl ⟨rfl, ?_⟩
            exact (HF.out.1.setCell (Nat.le_refl _) _).setCell (Nat.le_refl _) _
          | true =>
            have HD := Lib.hid (goW_yes (p.by_ what) (whatF p wl what d) wl card (lo, hi) hlt HE.out.1 (by rw [HE.out.2]))
            have hs1' : slo ≤ 100000 := by omega
            clear cr0 cr1 fr
            go_wp2_with fail
            go_roundw
            case rel =>
              have h1 : (if lo < slo + (p.by_ what).1 then slo + (p.by_ what).1 else lo) = max lo (slo + (p.by_ what).1) := by split <;> omega
              have h2 : (if shi + (p.by_ what).2 < hi then shi + (p.by_ what).2 else hi) = min hi (shi + (p.by_ what).2) := by split <;> omega
              rw [h1, h2]
              have hq := heap_setCell_at (k := 1) (heap_setCell_at (k := 0) HF.out.2.1 (.int .i64 (max lo (slo + (p.by_ what).1)))) (.int .i64 (min hi (shi + (p.by_ what).2)))
              have h6 : ((w6.setCell ⟨bq, 0, none⟩ (.int .i64 (max lo (slo + (p.by_ what).1)))).setCell ⟨bq, 1, none⟩ (.int .i64 (min hi (shi + (p.by_ what).2)))).heap[w.heap.size]? = some (.cells #[.int .i64 0, .int .i64 0] 24 (0, 0)) :=
                (Below.heap_setCell _ _ _ _ hne).trans ((Below.heap_setCell _ _ _ _ hne).trans HF.out.2.2)
              exact ⟨j + 1, _, _, by omega, by go_num, (HF.out.1.setCell hbqw _).setCell hbqw _, hq, h6, by rw [Hid, HG.out, HD.out, HE.out.2], by omega, by omega, by omega, by omega⟩
            case measure => simp [intOf]; omega
        · have heb : (gi wl j == (card : Int)) = false := by simpa using he
          have heb' : (gi wl j != (card : Int)) = true := by simpa using he
          have HE := Lib.hid (goW_skip (p.by_ what) (whatF p wl what d) wl card (lo, hi) hlt he)
          clear he hww cb0 cb1 hs4
          go_wp2_with fail
          go_roundw
          case rel => exact ⟨j + 1, lo, hi, by omega, by go_num, hbr, HBQ, HB6, by rw [Hid, HG.out, HE.out], hlo0, hlo1, hhi0, hhi1⟩
          case measure => simp [intOf]; omega
      · obtain rfl : j = wl.length := by omega
        have HD := Lib.hid (goW_end (p.by_ what) (whatF p wl what d) wl card (lo, hi) wl.length)
        have hlb := heap_lt HBQ.out
        go_wp2_with fail
        clear cb0 cb1 hww
        refine what11 (fun e => hne e.symm) HBQ HB6 ?_
        intro x63 x64 x65 x66 x67 x68 x7 w8 hs8 e7 hk8
        subst e7
        have HK8 := Lib.hid (And.intro hs8 hk8)
        clear hs8 hk8
        go_wp2_with fail
        have hR' : R = ((lo, hi), decide (lo ≤ hi)) := by rw [HG.out, HD.out]
        subst hR'
        have hk8 := HK8.out.2
        refine bodyPost_ret (v := .tuple #[.agg #[.int .i64 lo, .int .i64 hi], .bool (decide (lo ≤ hi))]) (res_c24t rfl _ rfl rfl (by rw [cell_of_heap hk8]; rfl) (by rw [cell_of_heap hk8]; rfl)) rfl ⟨rfl, ?_⟩
        exact hbr.trans (Same.below HK8.out.1 hbr.size (fun k hk e => by omega))
end Go.Proofs.Ytnfhlbmapfoifaa
namespace Go.Proofs.Ytnfhlbmapfoifaa
open Go.RowKit
set_option linter.unusedVariables false
theorem heap4 (w : World) (a b d e : Obj) : let W := (((w.alloc a).alloc b).alloc d).alloc e
    W.heap[w.heap.size]? = some a ∧ W.heap[w.heap.size + 1]? = some b ∧ W.heap[w.heap.size + 1 + 1]? = some d ∧ W.heap[w.heap.size + 1 + 1 + 1]? = some e := by
  have q0 := World.alloc_heap_new w a
  have q1 := World.alloc_heap_new (w.alloc a) b
  have q2 := World.alloc_heap_new ((w.alloc a).alloc b) d
  have q3 := World.alloc_heap_new (((w.alloc a).alloc b).alloc d) e
  simp only [World.size_alloc] at q1 q2 q3
  refine ⟨?_, ?_, ?_, q3⟩
  · exact (Below.heap_alloc _ _ _ (by simp only [World.size_alloc]; omega)).trans ((Below.heap_alloc _ _ _ (by simp only [World.size_alloc]; omega)).trans ((Below.heap_alloc _ _ _ (by simp only [World.size_alloc]; omega)).trans q0))
  · exact (Below.heap_alloc _ _ _ (by simp only [World.size_alloc]; omega)).trans ((Below.heap_alloc _ _ _ (by simp only [World.size_alloc]; omega)).trans q1)
  · exact (Below.heap_alloc _ _ _ (by simp only [World.size_alloc]; omega)).trans q2
theorem canB_true {p : Prs} {wl : List Int} {what : Bool} (h : ∀ c, c < wl.length → (!decide (gi wl c = -1) || (whatF p wl what (wl.length + 1) c).2) = true) : canB p wl what = true :=
  List.all_eq_true.2 fun c hc => h c (List.mem_range.1 hc)
theorem canB_false {p : Prs} {wl : List Int} {what : Bool} {c : Nat} (hc : c < wl.length) (h1 : gi wl c = -1) (h2 : (whatF p wl what (wl.length + 1) c).2 = false) : canB p wl what = false :=
  List.all_eq_false.2 ⟨c, List.mem_range.2 hc, by simp [h1, h2]⟩
abbrev lossV (p : Prs) (what : Bool) : Value := .agg #[.func (.func (ofF what)) #[] #[], .int .i64 (p.by_ what).1, .int .i64 (p.by_ what).2]
set_option maxRecDepth 100000 in
set_option maxHeartbeats 2000000 in
theorem can_any {p : Prs} {a : Option Addr} {cap bp g : Nat} {wl : List Int} {aw : Option Addr} {cw : Nat} {w : World} (hv : p.valid = true) (hl : wl.length = p.cards.length) (hr : roundB wl = false) (what : Bool) (hP : PileP w bp p a cap g) (hi : IsInts w aw wl) :
    Calls Try.prog 113 #[.pointer (some ⟨bp, 0, none⟩), .slice aw wl.length cw, lossV p what] w fun e w' => e = .returned (.bool (canB p wl what)) ∧ Below w.heap.size w w' := by
  have hmf : ∀ (fn : Fn) (first cap : Array Value) (w : World), (Instr.makeFunc fn first cap).run Try.prog w = .ok (.func fn first cap) w := fun _ _ _ _ => rfl
  have hn5 := (valid_parts hv).1
  have hll : wl.length ≤ 5 := by omega
  obtain ⟨self, hself⟩ : ∃ self : Value, self = .func (.func 119) #[] #[.pointer (some ⟨w.heap.size + 1 + 1, 0, none⟩), .pointer (some ⟨w.heap.size, 0, none⟩), .pointer (some ⟨w.heap.size + 1, 0, none⟩), .pointer (some ⟨w.heap.size + 1 + 1 + 1, 0, none⟩)] := ⟨_, rfl⟩
  obtain ⟨W1, hW1⟩ : ∃ W1 : World, W1 = (((w.alloc (.cells #[.pointer (some ⟨bp, 0, none⟩)] 79)).alloc (.cells #[.slice aw wl.length cw] 76)).alloc (.cells #[.func (.func (ofF what)) #[] #[], .int .i64 (p.by_ what).1, .int .i64 (p.by_ what).2] 120)).alloc (.cells #[self] 143) := ⟨_, rfl⟩
  have hb1 : Below w.heap.size w W1 := by
    rw [hW1]
    exact ((((Below.refl _ w).alloc (Nat.le_refl _) _).alloc (by simp) _).alloc (by simp; omega) _).alloc (by simp; omega) _
  obtain ⟨q0, q1, q2, q3⟩ := heap4 w (.cells #[.pointer (some ⟨bp, 0, none⟩)] 79) (.cells #[.slice aw wl.length cw] 76) (.cells #[.func (.func (ofF what)) #[] #[], .int .i64 (p.by_ what).1, .int .i64 (p.by_ what).2] 120) (.cells #[self] 143)
  rw [← hW1] at q0 q1 q2 q3
  have HWW : Hid (∀ v, Below W1.heap.size W1 v → WhatW v (w.heap.size + 1 + 1) w.heap.size (w.heap.size + 1) (w.heap.size + 1 + 1 + 1) what p a cap bp g wl aw cw) := by
    rw [hself] at q3
    exact fun v hb => WhatW.mono ⟨q2, q0, q1, q3, hP.mono hb1, hi.mono hb1⟩ hb
  have HB1 := Lib.hid hb1
  have HW1 := Lib.hid hW1
  have HSELF := Lib.hid hself
  have HV := Lib.hid (And.intro hv (And.intro hl hr))
  clear hW1 hb1 q0 q1 q2 q3 hself hP hi hv hl hr
  go_enter Try.func113, Try.ntmps113
  go_wp2_with fail
  have hs := HSELF.out
  rw [← hs]
  have hW1 := HW1.out
  rw [← hW1]
  clear hs hW1
  have hww := HWW.out W1 (Below.refl _ _)
  have cw0 : W1.cell? ⟨w.heap.size + 1, 0, none⟩ = some (.slice aw wl.length cw) := by rw [cell_of_heap hww.hw]; rfl
  clear hww
  go_wp2_with fail
  clear cw0
  go_loopw [15] (fun i wr => ∃ k : Nat, k ≤ wl.length ∧ i = .int .i64 k ∧ Below W1.heap.size W1 wr ∧ Hid (∀ c, c < k → (!decide (gi wl c = -1) || (whatF p wl what (wl.length + 1) c).2) = true)) (fun i _ => wl.length - (intOf i).toNat)
  case atStart => exact ⟨0, by omega, rfl, Below.refl _ _, fun c hc => by omega⟩
  case round =>
    obtain ⟨k, hk, rfl, hbr, HK⟩ := hrel
    by_cases hlt : k < wl.length
    · have hww := HWW.out wr hbr
      have hkn : k < p.cards.length := by have := HV.out.2.1; omega
      have hcall := what_any (what := what) HV.out.1 HV.out.2.1 (wl.length + 1) k wr (dep_of HV.out.2.2 hlt) hkn (by omega) hww
      obtain ⟨b2, o2, haw, hwj⟩ := hww.hi k hlt
      subst haw
      have hs4 : wr.cell? ⟨w.heap.size + 1 + 1 + 1, 0, none⟩ = some (.func (.func 119) #[] #[.pointer (some ⟨w.heap.size + 1 + 1, 0, none⟩), .pointer (some ⟨w.heap.size, 0, none⟩), .pointer (some ⟨w.heap.size + 1, 0, none⟩), .pointer (some ⟨w.heap.size + 1 + 1 + 1, 0, none⟩)]) := by rw [cell_of_heap hww.hs]; rfl
      obtain ⟨S, hS⟩ : ∃ S, whatF p wl what (wl.length + 1) k = S := ⟨_, rfl⟩
      rw [hS] at hcall
      obtain ⟨⟨slo, shi⟩, sok⟩ := S
      dsimp only at hcall
      have HS := Lib.hid hS
      clear hS hww
      have HNX : Hid ((!decide (gi wl k = -1) || sok) = true → ∀ c, c < k + 1 → (!decide (gi wl c = -1) || (whatF p wl what (wl.length + 1) c).2) = true) := fun h c hc => by
        by_cases e : c = k
        · subst e; rw [HS.out]; exact h
        · exact HK.out c (by omega)
      by_cases h1 : gi wl k = -1
      · have hb : (gi wl k == -1) = true := by simpa using h1
        have H1 := Lib.hid h1
        clear h1
        go_wp2_with fail
        (with_reducible refine hcall.mono ?_)
        clear hcall
        rintro e w5 ⟨rfl, hb5⟩
        have hB5 : Below W1.heap.size W1 (w5.alloc (.cells #[.int .i64 slo, .int .i64 shi] 24)) := (hbr.trans (hb5.mono hbr.size)).alloc (by have := hbr.size; have := hb5.size; omega) _
        clear hb5 hs4 hwj
        cases sok with
        | true =>
          go_wp2_with fail
          go_roundw
          case rel => exact ⟨k + 1, by omega, by go_num, hB5, HNX.out (by simp)⟩
          case measure => simp [intOf]; omega
        | false =>
          go_wp2_with fail
          go_ret
          exact ⟨ret_bool (by rw [canB_false hlt H1.out (by rw [HS.out])]), HB1.out.trans (hB5.mono HB1.out.size)⟩
      · have hb : (gi wl k == -1) = false := by simpa using h1
        have H1 := Lib.hid h1
        clear h1
        go_wp2_with fail
        (with_reducible refine hcall.mono ?_)
        clear hcall
        rintro e w5 ⟨rfl, hb5⟩
        have hB5 : Below W1.heap.size W1 (w5.alloc (.cells #[.int .i64 slo, .int .i64 shi] 24)) := (hbr.trans (hb5.mono hbr.size)).alloc (by have := hbr.size; have := hb5.size; omega) _
        clear hb5 hs4 hwj
        go_wp2_with fail
        all_goals try refine ⟨fun _ _ => trivial, ?_⟩
        all_goals try go_wp2_with fail
        go_roundw
        case rel => exact ⟨k + 1, by omega, by go_num, hB5, HNX.out (by simp [H1.out])⟩
        case measure => simp [intOf]; omega
    · obtain rfl : k = wl.length := by omega
      go_wp2_with fail
      go_ret
      exact ⟨ret_bool (by rw [canB_true HK.out]), HB1.out.trans (hbr.mono HB1.out.size)⟩
end Go.Proofs.Ytnfhlbmapfoifaa
