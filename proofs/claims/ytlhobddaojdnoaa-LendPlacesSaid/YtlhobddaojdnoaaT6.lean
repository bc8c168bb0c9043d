/- The reference: what is open; Check; Wrongs. -/
import Derived.Test.YtlhobddaojdnoaaT5
namespace Go.Proofs.Ytlhobddaojdnoaa
open Go.RowKit
set_option linter.unusedVariables false

/-- What 'open' comes to. -/
def OpenPost (c : Cab) (ok : Bool) (w : World) (e : Ending) (w' : World) : Prop :=
  ∃ v, e = .returned (.tuple #[v, .int .i64 (openE c ok)]) ∧ (openE c ok = 0 → Outs w' w.heap.size v (truths c)) ∧ Below w.heap.size w w'
theorem Outs.base {w : World} {B B' : Nat} {v : Value} {L : List (List Int × List Bool)} (h : Outs w B v L) (hB : B' ≤ B) : Outs w B' v L := by
  obtain ⟨vs, h1, h2, h3⟩ := h
  exact ⟨vs, h1, own_base h2 hB, fun i x p hx hp => ⟨own_base (h3 i x p hx hp).1 hB, own_base (h3 i x p hx hp).2 hB⟩⟩
theorem all_given {c : Cab} {ah : Option Addr} {ch : Nat} {al : Option Addr} {cl : Nat} {w : World} (hg : Given w c ah ch al cl) (hv : c.valid = true) (hb : backN c.loans ≤ 4) : Calls Try.prog 39 #[c.v ah ch al cl] w (AllPost c w) := by
  obtain ⟨v1, v2, v3, v4, v5, v6⟩ := valid_parts hv
  have hs := valid_slots hv
  exact allR_any hg.hi hg.li v4 hs (valid_homes hv) (valid_loans hv) hb
set_option maxRecDepth 100000 in
set_option maxHeartbeats 1000000 in
theorem ropen_any {c : Cab} {ah : Option Addr} {ch : Nat} {al : Option Addr} {cl : Nat} {w : World} (hg : Given w c ah ch al cl) (hb : c.valid = true → backN c.loans ≤ 4) (ok : Bool) :
    Calls Try.prog 55 #[c.v ah ch al cl, .bool ok] w (OpenPost c ok w) := by
  have hb1 : Below w.heap.size w (w.alloc (.cells (c.cells ah ch al cl) 25)) := (Below.refl _ w).alloc (Nat.le_refl _) _
  have hg1 := hg.mono hb1
  have HB1 := Lib.hid hb1
  cases hv : c.valid with
  | false =>
    have hE : Hid (openE c ok = 1) := by unfold Hid openE; simp [hv]
    have HV := Lib.hid hv
    clear hv hb hb1
    go_enter Try.func55, Try.ntmps55
    go_wp2_with fail
    refine (refCab_any hg1.hi hg1.li hg1.hh hg1.hl).mono ?_
    rintro e w2 ⟨rfl, hb2⟩
    rw [HV.out]
    go_wp2_with fail
    go_ret2
    exact ⟨.slice none 0 0, by rw [hE.out]; rfl, (fun h => by rw [hE.out] at h; cases h), bst HB1.out hb2⟩
  | true =>
    have HV := Lib.hid hv
    cases ok with
    | false =>
      have hE : Hid (openE c false = 2) := by unfold Hid openE; simp [hv]
      clear hv hb hb1
      go_enter Try.func55, Try.ntmps55
      go_wp2_with fail
      refine (refCab_any hg1.hi hg1.li hg1.hh hg1.hl).mono ?_
      rintro e w2 ⟨rfl, hb2⟩
      rw [HV.out]
      go_wp2_with fail
      go_ret2
      exact ⟨.slice none 0 0, by rw [hE.out]; rfl, (fun h => by rw [hE.out] at h; cases h), bst HB1.out hb2⟩
    | true =>
      have hbk := hb hv
      clear hv hb hb1
      obtain ⟨T, hT⟩ : ∃ T, truths c = T := ⟨_, rfl⟩
      have HT := Lib.hid hT
      cases T with
      | nil =>
        have hE : Hid (openE c true = 4) := openE_no HV.out hT
        clear hT
        go_enter Try.func55, Try.ntmps55
        go_wp2_with fail
        refine (refCab_any hg1.hi hg1.li hg1.hh hg1.hl).mono ?_
        rintro e w2 ⟨rfl, hb2⟩
        rw [HV.out]
        obtain ⟨hc2, hf2⟩ := bcell hb2
        go_wp2_with fail
        refine (all_given (hg1.mono hb2) HV.out hbk).mono ?_
        rintro e w3 ⟨v, rfl, hO, hb3⟩
        rw [HT.out] at hO
        obtain ⟨a, cap, rfl, _⟩ := hO.slice
        clear hc2 hf2
        go_wp2_with fail
        go_ret2
        exact ⟨.slice none 0 0, by rw [hE.out]; rfl, (fun h => by rw [hE.out] at h; cases h), bst (bst HB1.out hb2) hb3⟩
      | cons t0 T =>
        have hE : Hid (openE c true = 0) := openE_yes HV.out (by rw [hT]; simp)
        have hTl : Hid ((truths c).length = T.length + 1) := by rw [Hid, hT]; rfl
        clear hT
        go_enter Try.func55, Try.ntmps55
        go_wp2_with fail
        refine (refCab_any hg1.hi hg1.li hg1.hh hg1.hl).mono ?_
        rintro e w2 ⟨rfl, hb2⟩
        rw [HV.out]
        obtain ⟨hc2, hf2⟩ := bcell hb2
        go_wp2_with fail
        refine (all_given (hg1.mono hb2) HV.out hbk).mono ?_
        rintro e w3 ⟨v, rfl, hO, hb3⟩
        obtain ⟨a, cap, rfl, _⟩ := hO.slice
        have HO := Lib.hid hO
        have hn0 : (((truths c).length : Int) == 0) = false := by rw [hTl.out]; simp; omega
        clear hc2 hf2 hO
        go_wp2_with fail
        go_ret2
        have hz := HB1.out.size
        have hz2 := hb2.size
        exact ⟨.slice a (truths c).length cap, by rw [hE.out]; rfl, fun _ => HO.out.base (by omega), bst (bst HB1.out hb2) hb3⟩
end Go.Proofs.Ytlhobddaojdnoaa
