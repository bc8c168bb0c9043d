/- The small functions of the cabinet: numbers, cards, slots. -/
import Derived.Test.YtlhobddaojdnoaaProg
import Derived.Test.YtlhobddaojdnoaaPure
import Derived.Test.YtlhobddaojdnoaaBase
namespace Go.Proofs.Ytlhobddaojdnoaa
open Go.RowKit

theorem ret_bool {a b : Bool} (h : a = b) : Ending.returned (.bool a) = .returned (.bool b) := by rw [h]
theorem ret_int {k : IntKind} {a b : Int} (h : a = b) : Ending.returned (.int k a) = .returned (.int k b) := by rw [h]

theorem within_any (n lo hi : Int) (w : World) :
    Calls Try.prog 84 #[.int .i64 n, .int .i64 lo, .int .i64 hi] w fun e w' => e = .returned (.bool (inR n lo hi)) ∧ w = w' := by
  unfold inR
  go_enter Try.func84, Try.ntmps84
  go_wp2
  all_goals go_ret
  all_goals refine ⟨ret_bool ?_, rfl⟩
  · have h : lo ≤ n := by assumption
    simp [h]
  · have h : n < lo := by assumption
    simp; omega

theorem in_any (n lo hi : Int) (w : World) :
    Calls Try.prog 78 #[.int .i64 n, .int .i64 lo, .int .i64 hi] w fun e w' => e = .returned (.bool (inR n lo hi)) ∧ w = w' := by
  unfold inR
  go_enter Try.func78, Try.ntmps78
  go_wp2
  all_goals go_ret
  all_goals refine ⟨ret_bool ?_, rfl⟩
  · have h : lo ≤ n := by assumption
    simp [h]
  · have h : n < lo := by assumption
    simp; omega

/-- A slice's array holds these loans. -/
def IsLoans (w : World) (a : Option Addr) (l : List Ln) : Prop :=
  ∀ i, i < l.length → ∃ b off, a = some ⟨b, off, none⟩ ∧ w.cell? ⟨b, off + i * 4, none⟩ = some (.int .i64 (gl l i).kind) ∧ w.cell? ⟨b, off + i * 4 + 1, none⟩ = some (.int .i64 (gl l i).card) ∧
    w.cell? ⟨b, off + i * 4 + 2, none⟩ = some (.int .i64 (gl l i).person) ∧ w.cell? ⟨b, off + i * 4 + 3, none⟩ = some (.int .i64 (gl l i).slot)
theorem IsLoans.mono {w w' : World} {a : Option Addr} {l : List Ln} (h : IsLoans w a l) (hb : Below w.heap.size w w') : IsLoans w' a l := fun i hi => by
  obtain ⟨b, off, ha, h0, h1, h2, h3⟩ := h i hi
  exact ⟨b, off, ha, cell_stays hb h0, cell_stays hb h1, cell_stays hb h2, cell_stays hb h3⟩

/-- Block bc holds a cabinet. -/
structure CabP (w : World) (bc : Nat) (c : Cab) (ah : Option Addr) (ch : Nat) (al : Option Addr) (cl : Nat) : Prop where
  s : w.cell? ⟨bc, 0, none⟩ = some (.int .i64 c.slots)
  h : w.cell? ⟨bc, 1, none⟩ = some (.slice ah c.homes.length ch)
  g : w.cell? ⟨bc, 2, none⟩ = some (.int .i64 c.wrong)
  l : w.cell? ⟨bc, 3, none⟩ = some (.slice al c.loans.length cl)
  hi : IsInts w ah c.homes
  li : IsLoans w al c.loans
theorem CabP.mono {w w' : World} {bc : Nat} {c : Cab} {ah : Option Addr} {ch : Nat} {al : Option Addr} {cl : Nat} (h : CabP w bc c ah ch al cl) (hb : Below w.heap.size w w') : CabP w' bc c ah ch al cl :=
  ⟨cell_stays hb h.s, cell_stays hb h.h, cell_stays hb h.g, cell_stays hb h.l, h.hi.mono hb, h.li.mono hb⟩

theorem isCard_any (n : Int) {bc : Nat} {c : Cab} {ah : Option Addr} {ch : Nat} {al : Option Addr} {cl : Nat} {w : World} (hc : CabP w bc c ah ch al cl) (hn : c.homes.length ≤ 16) :
    Calls Try.prog 53 #[.pointer (some ⟨bc, 0, none⟩), .int .i64 n] w fun e w' => e = .returned (.bool (c.card n)) ∧ w = w' := by
  have h1 := hc.h
  go_enter Try.func53, Try.ntmps53
  go_wp2_with (go_at_call 84; refine (within_any _ _ _ _).mono ?_; rintro e w' ⟨rfl, rfl⟩)
  go_ret
  exact ⟨rfl, rfl⟩

theorem isSlot_any (n : Int) {bc : Nat} {c : Cab} {ah : Option Addr} {ch : Nat} {al : Option Addr} {cl : Nat} {w : World} (hc : CabP w bc c ah ch al cl) (hs : 0 ≤ c.slots ∧ c.slots ≤ 100) :
    Calls Try.prog 60 #[.pointer (some ⟨bc, 0, none⟩), .int .i64 n] w fun e w' => e = .returned (.bool (c.slotOf n)) ∧ w = w' := by
  have h1 := hc.s
  go_enter Try.func60, Try.ntmps60
  go_wp2_with (go_at_call 84; refine (within_any _ _ _ _).mono ?_; rintro e w' ⟨rfl, rfl⟩)
  go_ret
  exact ⟨rfl, rfl⟩

/-- A state of at most five cards as the program's array: what is beyond is 0. -/
abbrev stA (at_ : List Int) : Array Value := #[.int .i64 (gi at_ 0), .int .i64 (gi at_ 1), .int .i64 (gi at_ 2), .int .i64 (gi at_ 3), .int .i64 (gi at_ 4)]
abbrev stV (at_ : List Int) : Value := .agg (stA at_)
theorem stA_get (at_ : List Int) (k : Nat) (h : k < 5) : (stA at_)[k]? = some (.int .i64 (gi at_ k)) := by
  match k, h with
  | 0, _ | 1, _ | 2, _ | 3, _ | 4, _ => rfl
theorem stA_set (at_ : List Int) (k : Nat) (h : k < 5) (hk : k < at_.length) (v : Int) : (stA at_).setIfInBounds k (.int .i64 v) = stA (at_.set k v) := by
  match k, h with
  | 0, _ | 1, _ | 2, _ | 3, _ | 4, _ => simp [gi, hk]

theorem liesFrom_eq (slot : Int) : ∀ (l : List Int) (k : Nat), liesFrom l slot k = -1 ∨ ∃ j, j < l.length ∧ gi l j = slot ∧ liesFrom l slot k = ((k + j : Nat) : Int)
  | [], _ => .inl rfl
  | x :: r, k => by
    unfold liesFrom
    split
    · exact .inr ⟨0, by simp, by simpa [gi] using by assumption, by simp⟩
    · rcases liesFrom_eq slot r (k + 1) with h | ⟨j, h1, h2, h3⟩
      · exact .inl h
      · exact .inr ⟨j + 1, by simp; omega, by simpa [gi] using h2, by rw [h3]; omega⟩
theorem liesFrom_hit {at_ : List Int} {slot : Int} {k : Nat} (hk : k < at_.length) (h : gi at_ k = slot) : liesFrom (at_.drop k) slot k = k := by
  rw [List.drop_eq_getElem_cons hk]
  have : at_[k] = slot := by simpa [gi, hk] using h
  simp [liesFrom, this]
theorem liesFrom_miss {at_ : List Int} {slot : Int} {k : Nat} (hk : k < at_.length) (h : ¬ gi at_ k = slot) : liesFrom (at_.drop k) slot k = liesFrom (at_.drop (k + 1)) slot (k + 1) := by
  rw [List.drop_eq_getElem_cons hk]
  have : ¬ at_[k] = slot := by simpa [gi, hk] using h
  simp [liesFrom, this]

set_option maxHeartbeats 400000 in
theorem lies_any (at_ : List Int) (slot : Int) {bc : Nat} {c : Cab} {ah : Option Addr} {ch : Nat} {al : Option Addr} {cl : Nat} {w : World} (hc : CabP w bc c ah ch al cl) (hn : c.homes.length ≤ 5) (hl : at_.length = c.homes.length) :
    Calls Try.prog 61 #[.pointer (some ⟨bc, 0, none⟩), stV at_, .int .i64 slot] w fun e w' => e = .returned (.int .i64 (lies at_ slot)) ∧ Below w.heap.size w w' := by
  have h1 := hc.h
  have hbc := lt_of_cell h1
  rw [← hl] at h1 hn
  clear hl hc
  go_enter Try.func61, Try.ntmps61
  go_wp2
  go_loop [6, 7, 14] (fun _ _ i => ∃ k : Nat, k ≤ at_.length ∧ i = .int .i64 k ∧ Hid (lies at_ slot = liesFrom (at_.drop k) slot k)) (fun _ _ i => at_.length - (intOf i).toNat)
  case atStart => exact ⟨0, by omega, rfl, rfl⟩
  case round =>
    obtain ⟨k, hk, rfl, HL⟩ := hrel
    by_cases hlt : k < at_.length
    · have hg := stA_get at_ k (by omega)
      go_wp2
      · have ht : (gi at_ k == slot) = true := by assumption
        go_ret
        refine ⟨ret_int ?_, (Below.refl _ _).alloc (Nat.le_refl _) _⟩
        rw [HL.out, liesFrom_hit hlt (by simpa using ht)]
      · have ht : (gi at_ k == slot) = false := by assumption
        go_round
        case rel => exact ⟨k + 1, by omega, by go_num, by rw [Hid, HL.out, liesFrom_miss hlt (by simpa using ht)]⟩
        case measure => simp [intOf]; omega
    · go_wp2
      go_ret
      refine ⟨ret_int ?_, (Below.refl _ _).alloc (Nat.le_refl _) _⟩
      rw [HL.out, List.drop_of_length_le (by omega)]
      rfl

theorem need_yes (e : Int) (w : World) : Calls Try.prog 66 #[.bool true, .int .i64 e] w fun en w' => en = .returned (.tuple #[]) ∧ w = w' := by
  go_enter Try.func66, Try.ntmps66
  go_wp2
  go_end0
  exact ⟨rfl, rfl⟩
theorem need_no (e : Int) (w : World) : Calls Try.prog 66 #[.bool false, .int .i64 e] w fun en w' => en = .panicked [{ v := .iface 105 (.agg #[.int .i64 e]), recovered := false }] ∧ w = w' := by
  go_enter Try.func66, Try.ntmps66
  go_wp2
  exact ⟨rfl, rfl, rfl⟩
end Go.Proofs.Ytlhobddaojdnoaa
