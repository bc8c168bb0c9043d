/- Whether a cabinet is valid; the rules; sets; the least and the greatest number. -/
import Derived.Test.YtlhobddaojdnoaaW1
import Derived.Test.YtlhobddaojdnoaaBase2
namespace Go.Proofs.Ytlhobddaojdnoaa
open Go.RowKit

abbrev Ln.v (l : Ln) : Value := .agg #[.int .i64 l.kind, .int .i64 l.card, .int .i64 l.person, .int .i64 l.slot]

theorem isLent_any (l : Ln) {bc : Nat} {c : Cab} {ah : Option Addr} {ch : Nat} {al : Option Addr} {cl : Nat} {w : World} (hc : CabP w bc c ah ch al cl) (hn : c.homes.length ≤ 16) :
    Calls Try.prog 92 #[.pointer (some ⟨bc, 0, none⟩), l.v] w fun e w' => e = .returned (.bool (c.lent l)) ∧ Below w.heap.size w w' := by
  have hb : Below w.heap.size w (w.alloc (.cells #[.int .i64 l.kind, .int .i64 l.card, .int .i64 l.person, .int .i64 l.slot] 48)) := (Below.refl _ w).alloc (Nat.le_refl _) _
  have hc' := hc.mono hb
  unfold Cab.lent
  cases h : c.card l.card
  all_goals
    go_enter Try.func92, Try.ntmps92
    go_wp2_with fail
    refine (isCard_any l.card hc' hn).mono ?_
    rintro e w' ⟨rfl, rfl⟩
    rw [h]
    go_wp2_with (go_at_call 84; refine (within_any _ _ _ _).mono ?_; rintro e w' ⟨rfl, rfl⟩)
    go_ret
    exact ⟨by simp, hb⟩

theorem isLook_any (l : Ln) {bc : Nat} {c : Cab} {ah : Option Addr} {ch : Nat} {al : Option Addr} {cl : Nat} {w : World} (hc : CabP w bc c ah ch al cl) (hn : c.homes.length ≤ 16) (hs : 0 ≤ c.slots ∧ c.slots ≤ 100) :
    Calls Try.prog 95 #[.pointer (some ⟨bc, 0, none⟩), l.v] w fun e w' => e = .returned (.bool (c.look l)) ∧ Below w.heap.size w w' := by
  have hb : Below w.heap.size w (w.alloc (.cells #[.int .i64 l.kind, .int .i64 l.card, .int .i64 l.person, .int .i64 l.slot] 48)) := (Below.refl _ w).alloc (Nat.le_refl _) _
  have hc' := hc.mono hb
  unfold Cab.look
  cases h : c.slotOf l.slot
  · go_enter Try.func95, Try.ntmps95
    go_wp2_with fail
    refine (isSlot_any l.slot hc' hs).mono ?_
    rintro e w' ⟨rfl, rfl⟩
    rw [h]
    go_wp2
    go_ret
    exact ⟨by simp, hb⟩
  · by_cases h1 : l.card = -1
    · have H1 := Lib.hid h1
      clear h1
      go_enter Try.func95, Try.ntmps95
      go_wp2_with fail
      refine (isSlot_any l.slot hc' hs).mono ?_
      rintro e w' ⟨rfl, rfl⟩
      rw [h]
      have h1 := H1.out
      go_wp2
      go_ret
      exact ⟨by simp [h1], (Below.refl _ w).alloc (Nat.le_refl _) _⟩
    · have h2 : (l.card == -1) = false := by simpa using h1
      have H2 := Lib.hid h2
      clear h2
      go_enter Try.func95, Try.ntmps95
      go_wp2_with fail
      refine (isSlot_any l.slot hc' hs).mono ?_
      rintro e w' ⟨rfl, rfl⟩
      rw [h]
      have h2 := H2.out
      go_wp2_with (go_at_call 53; refine (isCard_any l.card hc' hn).mono ?_; rintro e w' ⟨rfl, rfl⟩)
      go_ret
      exact ⟨by simp [h1], hb⟩

/-- What kinds() returns: three pairs of functions in new memory. -/
def IsKinds (w : World) (v : Value) : Prop := ∃ b, v = .slice (some ⟨b, 0, none⟩) 3 3 ∧
  w.cell? ⟨b, 0, none⟩ = some (.func (.func 92) #[] #[]) ∧ w.cell? ⟨b, 1, none⟩ = some (.func (.func 93) #[] #[]) ∧ w.cell? ⟨b, 2, none⟩ = some (.func (.func 92) #[] #[]) ∧
  w.cell? ⟨b, 3, none⟩ = some (.func (.func 94) #[] #[]) ∧ w.cell? ⟨b, 4, none⟩ = some (.func (.func 95) #[] #[]) ∧ w.cell? ⟨b, 5, none⟩ = some (.func (.func 96) #[] #[])
theorem IsKinds.mono {w w' : World} {v : Value} (h : IsKinds w v) (hb : Below w.heap.size w w') : IsKinds w' v := by
  obtain ⟨b, hv, h0, h1, h2, h3, h4, h5⟩ := h
  exact ⟨b, hv, cell_stays hb h0, cell_stays hb h1, cell_stays hb h2, cell_stays hb h3, cell_stays hb h4, cell_stays hb h5⟩

theorem kinds_any (w : World) : Calls Try.prog 82 #[] w fun e w' => (∃ v, e = .returned v ∧ IsKinds w' v) ∧ Below w.heap.size w w' := by
  go_enter Try.func82, Try.ntmps82
  go_wp2
  go_ret
  exact ⟨⟨_, rfl, _, rfl, by simp, by simp, by simp, by simp, by simp, by simp⟩, (Below.refl _ w).alloc (Nat.le_refl _) _⟩


theorem within_q {n lo hi : Int} {w : World} {m : Nat} {b : Bool} (h : inR n lo hi = b) : Calls Try.prog 84 #[.int .i64 n, .int .i64 lo, .int .i64 hi] (w.drewN m) fun e w' => e = .returned (.bool b) ∧ ∃ k, w' = w.drewN k :=
  (within_any n lo hi (w.drewN m)).mono fun _ _ ⟨h1, h2⟩ => ⟨h ▸ h1, m, h2.symm⟩

theorem below_draws {B : Nat} {a w : World} (h : Below B a w) (n : Nat) : Below B a (w.drewN n) := ⟨h.os, h.tape, h.output, h.size, h.block⟩

set_option maxHeartbeats 1000000 in
theorem loanBad_any (l : Ln) {bk bp : Nat} {kv : Value} {bc : Nat} {c : Cab} {ah : Option Addr} {ch : Nat} {al : Option Addr} {cl : Nat} {w : World} (hk : w.cell? ⟨bk, 0, none⟩ = some kv) (hkv : IsKinds w kv)
    (hp : w.cell? ⟨bp, 0, none⟩ = some (.pointer (some ⟨bc, 0, none⟩))) (hc : CabP w bc c ah ch al cl) (hn : c.homes.length ≤ 16) (hs : 0 ≤ c.slots ∧ c.slots ≤ 100) :
    Calls Try.prog 91 #[l.v, .pointer (some ⟨bk, 0, none⟩), .pointer (some ⟨bp, 0, none⟩)] w fun e w' => e = .returned (.bool (!c.loanOk l)) ∧ Below w.heap.size w w' := by
  obtain ⟨b, rfl, k0, k1, k2, k3, k4, k5⟩ := hkv
  obtain ⟨lk, lc, lp, ls⟩ := l
  have hbk := lt_of_cell hk
  have hbp := lt_of_cell hp
  have hbb := lt_of_cell k0
  have hb : Below w.heap.size w (w.alloc (.cells #[.int .i64 lk, .int .i64 lc, .int .i64 lp, .int .i64 ls] 48)) := (Below.refl _ w).alloc (Nat.le_refl _) _
  by_cases hin : 0 ≤ lk ∧ lk ≤ 2
  · have hlk : lk = 0 ∨ lk = 1 ∨ lk = 2 := by omega
    clear hin
    rcases hlk with rfl | rfl | rfl
    · have hd := fun n => below_draws hb n
      go_enter Try.func91, Try.ntmps91
      go_wp2
      refine wp_region_quiet_tail (fun w' => ∃ n, w' = World.drewN (w.alloc (.cells #[.int .i64 0, .int .i64 lc, .int .i64 lp, .int .i64 ls] 48)) n) 16 (by kernel_rfl) (by kernel_rfl) ⟨1, rfl⟩ ?_
      simp only [List.take_succ_cons, List.take_zero, List.drop_succ_cons, List.drop_zero]
      repeat (go_big_quiet_step ((go_at_call 84; exact within_q (b := true) (by decide))))
      refine wpQuiet_nil ?_
      rintro _ ⟨nq, rfl⟩
      have hb1 := hd nq
      go_wp2_with fail
      refine (isLent_any ⟨0, lc, lp, ls⟩ (hc.mono hb1) hn).mono ?_
      rintro e w2 ⟨rfl, hb2⟩
      go_wp2
      go_ret
      exact ⟨by simp [Cab.loanOk], hb1.trans (hb2.mono hb1.size)⟩
    · have hd := fun n => below_draws hb n
      go_enter Try.func91, Try.ntmps91
      go_wp2
      refine wp_region_quiet_tail (fun w' => ∃ n, w' = World.drewN (w.alloc (.cells #[.int .i64 1, .int .i64 lc, .int .i64 lp, .int .i64 ls] 48)) n) 16 (by kernel_rfl) (by kernel_rfl) ⟨1, rfl⟩ ?_
      simp only [List.take_succ_cons, List.take_zero, List.drop_succ_cons, List.drop_zero]
      repeat (go_big_quiet_step ((go_at_call 84; exact within_q (b := true) (by decide))))
      refine wpQuiet_nil ?_
      rintro _ ⟨nq, rfl⟩
      have hb1 := hd nq
      go_wp2_with fail
      refine (isLent_any ⟨1, lc, lp, ls⟩ (hc.mono hb1) hn).mono ?_
      rintro e w2 ⟨rfl, hb2⟩
      go_wp2
      go_ret
      exact ⟨by simp [Cab.loanOk], hb1.trans (hb2.mono hb1.size)⟩
    · have hd := fun n => below_draws hb n
      go_enter Try.func91, Try.ntmps91
      go_wp2
      refine wp_region_quiet_tail (fun w' => ∃ n, w' = World.drewN (w.alloc (.cells #[.int .i64 2, .int .i64 lc, .int .i64 lp, .int .i64 ls] 48)) n) 16 (by kernel_rfl) (by kernel_rfl) ⟨1, rfl⟩ ?_
      simp only [List.take_succ_cons, List.take_zero, List.drop_succ_cons, List.drop_zero]
      repeat (go_big_quiet_step ((go_at_call 84; exact within_q (b := true) (by decide))))
      refine wpQuiet_nil ?_
      rintro _ ⟨nq, rfl⟩
      have hb1 := hd nq
      go_wp2_with fail
      refine (isLook_any ⟨2, lc, lp, ls⟩ (hc.mono hb1) hn hs).mono ?_
      rintro e w2 ⟨rfl, hb2⟩
      go_wp2
      go_ret
      exact ⟨by simp [Cab.loanOk], hb1.trans (hb2.mono hb1.size)⟩
  · have hr : inR lk 0 2 = false := by unfold inR; simp; omega
    have hbad : Cab.loanOk c ⟨lk, lc, lp, ls⟩ = false := by
      unfold Cab.loanOk
      rw [if_neg (by show ¬ lk = 0; omega), if_neg (by show ¬ lk = 1; omega), if_neg (by show ¬ lk = 2; omega)]
    have HB := Lib.hid hbad
    clear hbad
    go_enter Try.func91, Try.ntmps91
    go_wp2
    go_quiet ((go_at_call 84; exact within_q hr))
    go_wp2
    go_ret
    rw [HB.out]
    exact ⟨rfl, below_draws hb _⟩

end Go.Proofs.Ytlhobddaojdnoaa
