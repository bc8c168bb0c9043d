/- Opening a cabinet. -/
import Derived.Test.YtlhobddaojdnoaaW13
namespace Go.Proofs.Ytlhobddaojdnoaa
open Go.RowKit

/-- What a caller asks of an open cabinet. -/
def Asks (c : Cab) (ah : Option Addr) (ch : Nat) (al : Option Addr) (cl : Nat) (w : World) (qf : Nat) (cap : Array Value) (ok : Bool) : Prop :=
  (∀ args w, (callFunc qf args).run Try.prog w = .ok (.enter qf args) w) ∧
  ∀ w' bc, Below w.heap.size w w' → CabP w' bc c ah ch al cl → Calls Try.prog qf (#[.pointer (some ⟨bc, 0, none⟩)] ++ cap) w' fun e w'' => e = .returned (.bool ok) ∧ Below w'.heap.size w' w''

theorem asks_always (c : Cab) (ah : Option Addr) (ch : Nat) (al : Option Addr) (cl : Nat) (w : World) : Asks c ah ch al cl w 68 #[] true := by
  refine ⟨fun args w => by simp [callFunc, Try.func68, Try.f68, go_sem], fun w' bc _ _ => ?_⟩
  simp only [Array.append_empty]
  go_enter Try.func68, Try.ntmps68
  go_wp2
  go_ret
  exact ⟨rfl, Below.refl _ _⟩
theorem asks_card {c : Cab} (hh : c.homes.length ≤ 16) (ah : Option Addr) (ch : Nat) (al : Option Addr) (cl : Nat) {w : World} {n : Int} {b : Nat} (hb : w.cell? ⟨b, 0, none⟩ = some (.int .i64 n)) :
    Asks c ah ch al cl w 52 #[.pointer (some ⟨b, 0, none⟩)] (c.card n) := by
  refine ⟨fun args w => by simp [callFunc, Try.func52, Try.f52, go_sem], fun w' bc hw hc => ?_⟩
  have h1 := cell_stays hw hb
  simp only [List.append_toArray, List.cons_append, List.nil_append]
  go_enter Try.func52, Try.ntmps52
  go_wp2_with (go_at_call 53; refine (isCard_any n hc hh).mono ?_; rintro e w'' ⟨rfl, rfl⟩)
  go_ret
  exact ⟨rfl, Below.refl _ _⟩
theorem asks_slot {c : Cab} (hs : 0 ≤ c.slots ∧ c.slots ≤ 100) (ah : Option Addr) (ch : Nat) (al : Option Addr) (cl : Nat) {w : World} {n : Int} {b : Nat} (hb : w.cell? ⟨b, 0, none⟩ = some (.int .i64 n)) :
    Asks c ah ch al cl w 59 #[.pointer (some ⟨b, 0, none⟩)] (c.slotOf n) := by
  refine ⟨fun args w => by simp [callFunc, Try.func59, Try.f59, go_sem], fun w' bc hw hc => ?_⟩
  have h1 := cell_stays hw hb
  simp only [List.append_toArray, List.cons_append, List.nil_append]
  go_enter Try.func59, Try.ntmps59
  go_wp2_with (go_at_call 60; refine (isSlot_any n hc hs).mono ?_; rintro e w'' ⟨rfl, rfl⟩)
  go_ret
  exact ⟨rfl, Below.refl _ _⟩

/-- What is left when all that can be reached was looked at. -/
structure Reached (c : Cab) (r : Rule) (n0 : Nat) (b : Nat) (M : List (List Int × Int)) (w : World) : Prop where
  map : StMap c.homes.length w b M
  look : ∀ t, lookM M t = reachF c r c.wrong c.loans t
  lo : n0 ≤ b

theorem openE_zero {c : Cab} {ok : Bool} (h0 : openE c ok = 0) : c.valid = true ∧ ok = true ∧ truths c ≠ [] := by
  unfold openE at h0
  have hv : c.valid = true := by
    cases hv : c.valid with
    | true => rfl
    | false => simp [hv] at h0
  have hok : ok = true := by
    cases hok : ok with
    | true => rfl
    | false => simp [hv, hok] at h0
  subst hok
  exact ⟨hv, rfl, by intro ht; simp [hv, ht] at h0⟩

set_option maxRecDepth 100000 in
set_option maxHeartbeats 1000000 in
theorem open_ok {c : Cab} {w : World} {ah : Option Addr} {ch : Nat} {al : Option Addr} {cl : Nat} (hg : Given w c ah ch al cl) {qf : Nat} {cap : Array Value} {ok : Bool} (hq : c.valid = true → Asks c ah ch al cl w qf cap ok) (h0 : openE c ok = 0)
    (hcf : ∀ args w, (callFunc qf args).run Try.prog w = .ok (.enter qf args) w) :
    Calls Try.prog 51 #[c.v ah ch al cl, .func (.func qf) #[] cap] w fun e w' => ∃ bc b M, e = .returned (.tuple #[.pointer (some ⟨bc, 0, none⟩), .map (some b)]) ∧ CabP w' bc c ah ch al cl ∧ Reached c anyRule w.heap.size b M w' ∧ Below w.heap.size w w' := by
  obtain ⟨hv, rfl, ht⟩ := openE_zero h0
  obtain ⟨_, hq⟩ := hq hv
  have hb1 : Below w.heap.size w (w.alloc (.cells (c.cells ah ch al cl) 25)) := (Below.refl _ w).alloc (Nat.le_refl _) _
  have hg1 := hg.mono hb1
  go_enter Try.func51, Try.ntmps51
  go_wp2_with fail
  refine (look_yes hg1.hi hg1.li hg1.hh hg1.hl hv).mono ?_
  rintro e w2 ⟨bc, rfl, hbc, hc, hb2⟩
  have hB2 := hb1.trans (hb2.mono hb1.size)
  have hqc := hq w2 bc hB2 hc
  go_wp2_with fail
  refine hqc.mono ?_
  rintro e w3 ⟨rfl, hb3⟩
  have hB3 := hB2.trans (hb3.mono hB2.size)
  have hc3 := hc.mono hb3
  go_wp2_with (go_at_call 66; refine (need_yes _ _).mono ?_; rintro e w' ⟨rfl, rfl⟩)
  refine (all_any anything_rule hc3 hv hg.cl).mono ?_
  rintro e w4 ⟨b, M, rfl, hM, hl, hb4, hlo⟩
  have hB4 := hB3.trans (hb4.mono hB3.size)
  have hlen := hM.raw.len Try.underlying69 3
  rw [List.length_map] at hlen
  have hMp : M ≠ [] := fun h => ht ((map_empty hM hl).1 h)
  have hMl : (0 : Int) < (M.length : Int) := by have := List.length_pos_iff.2 hMp; omega
  have hMn : 0 < M.length := by omega
  go_wp2_with fail
  refine (need_yes _ _).mono ?_
  rintro e w' ⟨rfl, rfl⟩
  go_wp2_with fail
  go_ret2
  exact ⟨bc, b, M, rfl, hc3.mono hb4, ⟨hM, hl, by have := hB3.size; omega⟩, hB4⟩

set_option maxRecDepth 100000 in
set_option maxHeartbeats 1000000 in
theorem open_no {c : Cab} {w : World} {ah : Option Addr} {ch : Nat} {al : Option Addr} {cl : Nat} (hg : Given w c ah ch al cl) {qf : Nat} {cap : Array Value} {ok : Bool} (hq : c.valid = true → Asks c ah ch al cl w qf cap ok) (h0 : openE c ok ≠ 0)
    (hcf : ∀ args w, (callFunc qf args).run Try.prog w = .ok (.enter qf args) w) :
    Calls Try.prog 51 #[c.v ah ch al cl, .func (.func qf) #[] cap] w fun e w' => e = .panicked [{ v := .iface 105 (.agg #[.int .i64 (openE c ok)]), recovered := false }] ∧ Below w.heap.size w w' := by
  have hb1 : Below w.heap.size w (w.alloc (.cells (c.cells ah ch al cl) 25)) := (Below.refl _ w).alloc (Nat.le_refl _) _
  have hg1 := hg.mono hb1
  cases hv : c.valid with
  | false =>
    have hE : openE c ok = 1 := by unfold openE; simp [hv]
    rw [hE]
    clear h0 hE
    go_enter Try.func51, Try.ntmps51
    go_wp2_with fail
    refine (look_no hg1.hi hg1.li hg1.hh hg1.hl hv).mono ?_
    rintro e w2 ⟨rfl, hb2⟩
    exact ⟨rfl, rfl, hb1.trans (hb2.mono hb1.size)⟩
  | true =>
    obtain ⟨_, hq⟩ := hq hv
    cases hok : ok with
    | false =>
      subst hok
      have hE : openE c false = 2 := by unfold openE; simp [hv]
      rw [hE]
      clear h0 hE
      go_enter Try.func51, Try.ntmps51
      go_wp2_with fail
      refine (look_yes hg1.hi hg1.li hg1.hh hg1.hl hv).mono ?_
      rintro e w2 ⟨bc, rfl, hbc, hc, hb2⟩
      have hB2 := hb1.trans (hb2.mono hb1.size)
      have hqc := hq w2 bc hB2 hc
      go_wp2_with fail
      refine hqc.mono ?_
      rintro e w3 ⟨rfl, hb3⟩
      go_wp2_with (go_at_call 66; refine (need_no _ _).mono ?_; rintro e w' ⟨rfl, rfl⟩)
      exact ⟨rfl, rfl, hB2.trans (hb3.mono hB2.size)⟩
    | true =>
      subst hok
      have ht : truths c = [] := by
        cases ht : truths c with
        | nil => rfl
        | cons x l => exact absurd (by unfold openE; simp [hv, ht]) h0
      have hE : openE c true = 4 := by unfold openE; simp [hv, ht]
      rw [hE]
      clear h0 hE
      go_enter Try.func51, Try.ntmps51
      go_wp2_with fail
      refine (look_yes hg1.hi hg1.li hg1.hh hg1.hl hv).mono ?_
      rintro e w2 ⟨bc, rfl, hbc, hc, hb2⟩
      have hB2 := hb1.trans (hb2.mono hb1.size)
      have hqc := hq w2 bc hB2 hc
      go_wp2_with fail
      refine hqc.mono ?_
      rintro e w3 ⟨rfl, hb3⟩
      have hB3 := hB2.trans (hb3.mono hB2.size)
      have hc3 := hc.mono hb3
      go_wp2_with (go_at_call 66; refine (need_yes _ _).mono ?_; rintro e w' ⟨rfl, rfl⟩)
      refine (all_any anything_rule hc3 hv hg.cl).mono ?_
      rintro e w4 ⟨b, M, rfl, hM, hl, hb4, hlo⟩
      have hB4 := hB3.trans (hb4.mono hB3.size)
      have hM0 := (map_empty hM hl).2 ht
      subst hM0
      have hlen : (Builtin.len_ #[69] 3 #[.map (some b)]).run Try.prog w4 = .ok (.int .i64 0) w4 := hM.raw.len Try.underlying69 3
      clear ht
      go_wp2_with (go_at_call 66; refine (need_no _ _).mono ?_; rintro e w' ⟨rfl, rfl⟩)
      exact ⟨rfl, rfl, hB4⟩
end Go.Proofs.Ytlhobddaojdnoaa
