/- Whether a cabinet is valid: the whole test; a cabinet that is looked at. -/
import Derived.Test.YtlhobddaojdnoaaW2
namespace Go.Proofs.Ytlhobddaojdnoaa
open Go.RowKit

/-- The first loan, from number k on, that is not valid; -1: none. -/
def badFrom (c : Cab) : List Ln → Nat → Int
  | [], _ => -1
  | l :: r, k => if c.loanOk l then badFrom c r (k + 1) else (k : Int)
theorem badFrom_ge (c : Cab) : ∀ (l : List Ln) (k : Nat), decide (0 ≤ badFrom c l k) = !l.all c.loanOk
  | [], k => by simp [badFrom]
  | x :: r, k => by
    unfold badFrom
    cases h : c.loanOk x
    · simp [h]
    · simp [h, badFrom_ge c r (k + 1)]
theorem badFrom_step (c : Cab) {l : List Ln} {k : Nat} (hk : k < l.length) : badFrom c (l.drop k) k = if c.loanOk (gl l k) then badFrom c (l.drop (k + 1)) (k + 1) else (k : Int) := by
  rw [List.drop_eq_getElem_cons hk]
  have : gl l k = l[k] := by simp [gl, hk]
  rw [this]
  rfl

set_option maxHeartbeats 1000000 in
theorem indexFunc_any {bk bp : Nat} {kv : Value} {bc : Nat} {c : Cab} {ah : Option Addr} {ch : Nat} {al : Option Addr} {cl : Nat} {w : World} (hk : w.cell? ⟨bk, 0, none⟩ = some kv) (hkv : IsKinds w kv)
    (hp : w.cell? ⟨bp, 0, none⟩ = some (.pointer (some ⟨bc, 0, none⟩))) (hc : CabP w bc c ah ch al cl) (hn : c.homes.length ≤ 16) (hs : 0 ≤ c.slots ∧ c.slots ≤ 100) (hl : c.loans.length ≤ 30) :
    Calls Try.prog 97 #[.slice al c.loans.length cl, .func (.func 91) #[] #[.pointer (some ⟨bk, 0, none⟩), .pointer (some ⟨bp, 0, none⟩)]] w fun e w' => e = .returned (.int .i64 (badFrom c c.loans 0)) ∧ Below w.heap.size w w' := by
  go_enter Try.func97, Try.ntmps97
  go_wp2
  go_loopw [4, 5, 8] (fun _ _ i wr => ∃ k : Nat, k ≤ c.loans.length ∧ i = .int .i64 k ∧ Hid (badFrom c c.loans 0 = badFrom c (c.loans.drop k) k) ∧ Below w.heap.size w wr) (fun _ _ i _ => c.loans.length - (intOf i).toNat)
  case atStart => exact ⟨0, by omega, rfl, rfl, Below.refl _ _⟩
  case round =>
    obtain ⟨k, hkn, rfl, HL, hbr⟩ := hrel
    by_cases hlt : k < c.loans.length
    · obtain ⟨b, off, rfl, l0, l1, l2, l3⟩ := (hc.mono hbr).li k hlt
      have HB := Lib.hid (badFrom_step c hlt)
      have hcall := loanBad_any (gl c.loans k) (cell_stays hbr hk) (hkv.mono hbr) (cell_stays hbr hp) (hc.mono hbr) hn hs
      go_wp2_with fail
      cases hok : c.loanOk (gl c.loans k)
      · rw [hok] at hcall
        refine hcall.mono ?_
        rintro e w2 ⟨rfl, hb2⟩
        go_wp2
        go_ret
        refine ⟨ret_int ?_, hbr.trans (hb2.mono hbr.size)⟩
        rw [HL.out, HB.out, hok]; rfl
      · rw [hok] at hcall
        refine hcall.mono ?_
        rintro e w2 ⟨rfl, hb2⟩
        go_wp2
        go_roundw
        case rel => exact ⟨k + 1, by omega, by go_num, by rw [Hid, HL.out, HB.out, hok]; rfl, hbr.trans (hb2.mono hbr.size)⟩
        case measure => simp [intOf]; omega
    · go_wp2
      go_ret
      refine ⟨ret_int ?_, hbr⟩
      rw [HL.out, List.drop_of_length_le (by omega)]
      rfl

theorem containsFunc_any {bk bp : Nat} {kv : Value} {bc : Nat} {c : Cab} {ah : Option Addr} {ch : Nat} {al : Option Addr} {cl : Nat} {w : World} (hk : w.cell? ⟨bk, 0, none⟩ = some kv) (hkv : IsKinds w kv)
    (hp : w.cell? ⟨bp, 0, none⟩ = some (.pointer (some ⟨bc, 0, none⟩))) (hc : CabP w bc c ah ch al cl) (hn : c.homes.length ≤ 16) (hs : 0 ≤ c.slots ∧ c.slots ≤ 100) (hl : c.loans.length ≤ 30) :
    Calls Try.prog 90 #[.slice al c.loans.length cl, .func (.func 91) #[] #[.pointer (some ⟨bk, 0, none⟩), .pointer (some ⟨bp, 0, none⟩)]] w fun e w' => e = .returned (.bool (!c.loans.all c.loanOk)) ∧ Below w.heap.size w w' := by
  have HG := Lib.hid (badFrom_ge c c.loans 0)
  have hcall := indexFunc_any hk hkv hp hc hn hs hl
  clear hk hkv hp hc
  go_enter Try.func90, Try.ntmps90
  go_wp2_with fail
  refine hcall.mono ?_
  rintro e w2 ⟨rfl, hb2⟩
  go_wp2
  go_ret
  exact ⟨ret_bool HG.out, hb2⟩

set_option maxHeartbeats 400000 in
theorem index_any (l : List Int) (x : Int) {a : Option Addr} {cap : Nat} {w : World} (ha : IsInts w a l) (hn : l.length ≤ 16) :
    Calls Try.prog 89 #[.slice a l.length cap, .int .i64 x] w fun e w' => e = .returned (.int .i64 (lies l x)) ∧ w = w' := by
  go_enter Try.func89, Try.ntmps89
  go_wp2
  go_loop [4, 5, 8] (fun _ _ i => ∃ k : Nat, k ≤ l.length ∧ i = .int .i64 k ∧ Hid (lies l x = liesFrom (l.drop k) x k)) (fun _ _ i => l.length - (intOf i).toNat)
  case atStart => exact ⟨0, by omega, rfl, rfl⟩
  case round =>
    obtain ⟨k, hk, rfl, HL⟩ := hrel
    by_cases hlt : k < l.length
    · obtain ⟨b, off, rfl, hc⟩ := ha k hlt
      go_wp2
      · have ht : (x == gi l k) = true := by assumption
        go_ret
        refine ⟨ret_int ?_, rfl⟩
        rw [HL.out, liesFrom_hit hlt (by simpa using Eq.symm (by simpa using ht : x = gi l k))]
      · have ht : (x == gi l k) = false := by assumption
        go_round
        case rel => exact ⟨k + 1, by omega, by go_num, by rw [Hid, HL.out, liesFrom_miss hlt (fun h => by simp [h] at ht)]⟩
        case measure => simp [intOf]; omega
    · go_wp2
      go_ret
      refine ⟨ret_int ?_, rfl⟩
      rw [HL.out, List.drop_of_length_le (by omega)]
      rfl

end Go.Proofs.Ytlhobddaojdnoaa
