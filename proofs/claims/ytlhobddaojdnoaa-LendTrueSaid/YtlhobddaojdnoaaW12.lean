/- All that can be reached; what is left behind when a call ends. -/
import Derived.Test.YtlhobddaojdnoaaW11
namespace Go.Proofs.Ytlhobddaojdnoaa
open Go.RowKit

/-! ### leaving a function that recovers -/
theorem leaves_ok {fn : Func} {tmps : Array Value} {R : Ending → World → Prop} {f : Nat} {pe : Value} {w : World} (hok : CallsD Try.prog f #[pe] .returning w fun e u' w' => e = .returned (.tuple #[]) ∧ u' = .returning ∧ w = w')
    (hcf : ∀ args w, (callFunc f args).run Try.prog w = .ok (.enter f args) w) {v : Value} (hv : (results fn tmps).run Try.prog w = .ok v w) (hR : R (.returned v) w) :
    Leaves Try.prog fn tmps R [{ target := .fn (.func f) #[pe], args := #[] }] .returning w := by
  refine ⟨by simp, _, _, f, #[pe], rfl, ?_, ?_⟩
  · simp [invoke, go_sem, hcf]
  · refine CallsD.mono hok ?_
    rintro e u' w' ⟨rfl, rfl, rfl⟩
    exact ⟨v, hv, hR⟩
theorem leaves_no {fn : Func} {tmps : Array Value} {R : Ending → World → Prop} {f : Nat} {pe : Value} {w w' : World} {c c' : List PanicEntry}
    (hno : CallsD Try.prog f #[pe] (.panicking c) w fun e u' w'' => e = .returned (.tuple #[]) ∧ u' = .panicking c' ∧ w'' = w') (hs : settle (.panicking c') = .returning)
    (hcf : ∀ args w, (callFunc f args).run Try.prog w = .ok (.enter f args) w) {v : Value} (hv : (results fn tmps).run Try.prog w' = .ok v w') (hR : R (.returned v) w') :
    Leaves Try.prog fn tmps R [{ target := .fn (.func f) #[pe], args := #[] }] (.panicking c) w := by
  refine ⟨by simp, _, _, f, #[pe], rfl, ?_, ?_⟩
  · simp [invoke, go_sem, hcf]
  · refine CallsD.mono hno ?_
    rintro e u' w'' ⟨rfl, rfl, rfl⟩
    simp only [hs]
    exact ⟨v, hv, hR⟩
theorem res_tc {fn : Func} {p u : Tmp} (h : fn.results = #[.tmp p, .cell u 28]) (tmps : Array Value) {w : World} {b : Nat} {x : Int} (hu : tmps.getD u undef = .pointer (some ⟨b, 0, none⟩)) (hc : w.cell? ⟨b, 0, none⟩ = some (.int .i64 x)) :
    (results fn tmps).run Try.prog w = .ok (.tuple #[tmps.getD p undef, .int .i64 x]) w := by
  have hu' : tmps[u]?.getD undef = .pointer (some ⟨b, 0, none⟩) := by simpa using hu
  simp [results, h, hu', hc, go_sem]
theorem res_ttc {fn : Func} {p q u : Tmp} (h : fn.results = #[.tmp p, .tmp q, .cell u 28]) (tmps : Array Value) {w : World} {b : Nat} {x : Int} (hu : tmps.getD u undef = .pointer (some ⟨b, 0, none⟩)) (hc : w.cell? ⟨b, 0, none⟩ = some (.int .i64 x)) :
    (results fn tmps).run Try.prog w = .ok (.tuple #[tmps.getD p undef, tmps.getD q undef, .int .i64 x]) w := by
  have hu' : tmps[u]?.getD undef = .pointer (some ⟨b, 0, none⟩) := by simpa using hu
  simp [results, h, hu', hc, go_sem]

/-! ### a valid cabinet -/
theorem valid_parts {c : Cab} (h : c.valid = true) : c.homes.length ≤ 5 ∧ GoodSt c.homes.length c.homes ∧ (1 ≤ c.slots ∧ c.slots ≤ 6) ∧ (∀ l ∈ c.loans, c.loanOk l = true) ∧ c.loans.length ≤ 12 ∧ (0 ≤ c.wrong ∧ c.wrong ≤ 12) := by
  unfold Cab.valid Cab.sizes Cab.homesOk Cab.slotOf inR at h
  simp only [Bool.and_eq_true, decide_eq_true_eq, List.all_eq_true] at h
  obtain ⟨⟨⟨⟨⟨h1, h2⟩, h3⟩, h4⟩, h5, h6⟩, h7⟩ := h
  refine ⟨h2, ⟨rfl, fun x hx => ?_⟩, h1, h7, h4, h3⟩
  have := h6 x hx
  omega

theorem play_valid {c : Cab} {r : Rule} {T : TypeId} {x : Value} (hr : RuleOk r T x) {w : World} {bc : Nat} {ah : Option Addr} {ch : Nat} {al : Option Addr} {cl : Nat} (hc : CabP w bc c ah ch al cl) (hv : c.valid = true) (hcl : c.loans.length ≤ cl)
    (i : Nat) (hi : i ≤ c.loans.length) (W : Int) (hW : 0 ≤ W ∧ W ≤ 100) :
    Calls Try.prog 49 #[.pointer (some ⟨bc, 0, none⟩), .int .i64 i, .int .i64 W, .iface T x] w fun e w' => ∃ b M, e = .returned (.map (some b)) ∧ StMap c.homes.length w' b M ∧ (∀ t, lookM M t = reachF c r W (c.loans.take i) t) ∧
      Below w.heap.size w w' ∧ w.heap.size ≤ b := by
  obtain ⟨h1, h2, h3, h4, h5, h6⟩ := valid_parts hv
  exact play_any c r hr hc h1 h2 ⟨by omega, h3.2⟩ h4 hcl i hi (by omega) W hW

theorem map_empty {c : Cab} {r : Rule} {W : Int} {ls : List Ln} {n : Nat} {w : World} {b : Nat} {M : List (List Int × Int)} (hM : StMap n w b M) (h : ∀ t, lookM M t = reachF c r W ls t) : M = [] ↔ truthsBy c r ls W = [] := by
  constructor
  · rintro rfl
    cases ht : truthsBy c r ls W with
    | nil => rfl
    | cons x l =>
      have h1 := h x.1
      have h2 : reachF c r W ls x.1 = none := by rw [← h1]; rfl
      have := minF_none.1 h2 (wrongs x.2 : Int)
      exact absurd (by rw [ht]; simp) this
  · intro ht
    cases hM' : M with
    | nil => rfl
    | cons p M' =>
      have h1 := (look_some hM.keys (t := p.1) (x := p.2)).2 (by rw [hM']; simp)
      rw [h p.1] at h1
      unfold reachF at h1
      rw [ht] at h1
      cases h1

set_option maxRecDepth 100000 in
theorem all_any {c : Cab} {r : Rule} {T : TypeId} {x : Value} (hr : RuleOk r T x) {w : World} {bc : Nat} {ah : Option Addr} {ch : Nat} {al : Option Addr} {cl : Nat} (hc : CabP w bc c ah ch al cl) (hv : c.valid = true) (hcl : c.loans.length ≤ cl) :
    Calls Try.prog 69 #[.pointer (some ⟨bc, 0, none⟩), .iface T x] w fun e w' => ∃ b M, e = .returned (.map (some b)) ∧ StMap c.homes.length w' b M ∧ (∀ t, lookM M t = reachF c r c.wrong c.loans t) ∧
      Below w.heap.size w w' ∧ w.heap.size ≤ b := by
  have hbc := lt_of_cell hc.h
  obtain ⟨h1, h2, h3, h4, h5, h6⟩ := valid_parts hv
  have x1 := fun y : Aft w.heap.size w => cell_stays y.h hc.l
  have x2 := fun y : Aft w.heap.size w => cell_stays y.h hc.g
  go_enter Try.func69, Try.ntmps69
  go_wp2_with fail
  refine wp_region_aft_tail 13 mixed (by kernel_rfl) ?_
  simp only [List.take_succ_cons, List.take_zero, List.drop_succ_cons, List.drop_zero]
  repeat (go_big_quiet_step (fail))
  refine wpQuiet_nil ?_
  rintro _ ⟨y, rfl⟩
  go_wp2_with fail
  refine (play_valid hr (hc.mono y.h) hv hcl c.loans.length (Nat.le_refl _) c.wrong ⟨h6.1, by omega⟩).mono ?_
  rintro e w' ⟨b, M, rfl, hM, hl, hb, hlo⟩
  go_wp2
  go_ret
  refine ⟨b, M, rfl, hM, fun t => ?_, y.h.trans (hb.mono y.h.size), by have := y.h.size; omega⟩
  rw [hl, List.take_length]
end Go.Proofs.Ytlhobddaojdnoaa
