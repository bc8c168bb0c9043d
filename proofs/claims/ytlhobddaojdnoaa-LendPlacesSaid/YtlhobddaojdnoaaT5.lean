/- The reference's truths: all of them, in its order; All. -/
import Derived.Test.YtlhobddaojdnoaaT4
namespace Go.Proofs.Ytlhobddaojdnoaa
open Go.RowKit
set_option linter.unusedVariables false

set_option maxRecDepth 100000 in
set_option maxHeartbeats 2000000 in
theorem truths_many {c : Cab} {ah : Option Addr} {ch : Nat} {al : Option Addr} {cl : Nat} {B : Nat}
    (x : List Int × List Bool) (w : World) (p : Value × Value) (out : Value) (L : List (List Int × List Bool)) (hn : x.2.length ≤ 12) (hp : OwnT w B x p) (ho : Outs w B out L) (hmany : c.wrong < (wrongs x.2 : Int)) :
    Calls Try.prog 80 #[c.v ah ch al cl, .agg #[p.1, p.2], out] w (TruthsPost B w out (L ++ goOn c (c.loans.drop x.2.length) x.1 x.2)) := by
    have IH : True := trivial
    have hx : True := trivial
    have hL : True := trivial
    obtain ⟨p1, p2⟩ := p
    obtain ⟨pa, pc, rfl, pi⟩ := own_ints hp.1 rfl
    obtain ⟨qa, qc, rfl, qi⟩ := own_bools hp.2 rfl
    obtain ⟨W1, hW1⟩ : ∃ W1 : World, W1 = (w.alloc (.cells #[.int .i64 c.slots, .slice ah c.homes.length ch, .int .i64 c.wrong, .slice al c.loans.length cl] 25)).alloc (.cells #[.slice pa x.1.length pc, .slice qa x.2.length qc] 56) := ⟨_, rfl⟩
    have hb1 : Below w.heap.size w W1 := by rw [hW1]; exact ((Below.refl _ w).alloc (Nat.le_refl _) _).alloc (by simp) _
    have hz1 : W1.heap.size = w.heap.size + 2 := by rw [hW1]; simp
    have hA : W1.heap[w.heap.size]? = some (.cells (c.cells ah ch al cl) 25 (0, 0)) := by rw [hW1]; exact heap_alloc2_0 _ _ _
    have hB : W1.heap[w.heap.size + 1]? = some (.cells #[.slice pa x.1.length pc, .slice qa x.2.length qc] 56 (0, 0)) := by
      rw [hW1]
      have := World.alloc_heap_new (w.alloc (.cells (c.cells ah ch al cl) 25)) (.cells #[.slice pa x.1.length pc, .slice qa x.2.length qc] 56)
      rwa [World.size_alloc] at this
    have hT : IsTruth W1 x (.slice pa x.1.length pc) (.slice qa x.2.length qc) := IsTruth.mono ⟨⟨_, _, rfl, pi⟩, ⟨_, _, rfl, qi⟩⟩ hb1
    have a0 : ∀ o, W1.cell? ⟨w.heap.size, o, none⟩ = (c.cells ah ch al cl)[o]? := fun o => cell_of_heap hA
    have a1 : ∀ o, W1.cell? ⟨w.heap.size + 1, o, none⟩ = (#[.slice pa x.1.length pc, .slice qa x.2.length qc] : Array Value)[o]? := fun o => cell_of_heap hB
    have c0 : W1.cell? ⟨w.heap.size, 0, none⟩ = some (.int .i64 c.slots) := a0 0
    have c1 : W1.cell? ⟨w.heap.size, 1, none⟩ = some (.slice ah c.homes.length ch) := a0 1
    have c2 : W1.cell? ⟨w.heap.size, 2, none⟩ = some (.int .i64 c.wrong) := a0 2
    have c3 : W1.cell? ⟨w.heap.size, 3, none⟩ = some (.slice al c.loans.length cl) := a0 3
    have t0 : W1.cell? ⟨w.heap.size + 1, 0, none⟩ = some (.slice pa x.1.length pc) := a1 0
    have t1 : W1.cell? ⟨w.heap.size + 1, 1, none⟩ = some (.slice qa x.2.length qc) := a1 1
    have x0 := fun y : Aft W1.heap.size W1 => cell_stays y.h t0
    have x1 := fun y : Aft W1.heap.size W1 => cell_stays y.h t1
    have x2 := fun y : Aft W1.heap.size W1 => cell_stays y.h c2
    have hm : x.2.length ≤ 100 := by omega
    rw [goOn_many hmany]
    rw [List.append_nil]
    have hdm : decide (c.wrong < (wrongs x.2 : Int)) = true := by simpa using hmany
    have HN := Lib.hid (And.intro hW1 (And.intro hn (And.intro hx hz1)))
    clear hn hx hz1 hW1 a0 a1 hA hB hL hmany IH
    go_enter Try.func80, Try.ntmps80
    go_wp2
    have hW1 := HN.out.1
    rw [← hW1]
    clear hW1
    refine wp_region_aft mixed (by kernel_rfl) ?_
    repeat (go_big_quiet_step ((go_at_call 87; exact calls_aft (rwrongs_any (hT.mono (Aft.h _)) hm))))
    refine wpQuiet_nil ?_
    rintro _ ⟨y, rfl⟩
    have y0 := cell_stays y.h c0
    have y1 := cell_stays y.h c1
    have y2 := cell_stays y.h c2
    have y3 := cell_stays y.h c3
    have z0 := cell_stays y.h t0
    have z1 := cell_stays y.h t1
    clear x0 x1 x2 c0 c1 c2 c3 t0 t1
    go_wp2
    go_ret
    have hby : Below w.heap.size w y.v := bst hb1 y.h
    exact ⟨_, rfl, ho.below hby, ⟨hby.os, hby.tape, hby.output, hby.size, fun k hk _ => hby.block k hk⟩, fun g h => .inl h⟩

theorem truths_any {c : Cab} {ah : Option Addr} {ch : Nat} {al : Option Addr} {cl : Nat} {W : World} (hi : IsInts W ah c.homes) (li : IsLoans W al c.loans) (hok : ∀ l ∈ c.loans, c.loanOk l = true) (hs : 1 ≤ c.slots ∧ c.slots ≤ 6) (hh : c.homes.length ≤ 5) (hl : c.loans.length ≤ 12) :
    ∀ (n : Nat) (x : List Int × List Bool) (w : World) (p : Value × Value) (out : Value) (L : List (List Int × List Bool)), x.2.length + n = c.loans.length → x.1.length = c.homes.length → Below W.heap.size W w → OwnT w W.heap.size x p → Outs w W.heap.size out L →
      L.length + (goOn c (c.loans.drop x.2.length) x.1 x.2).length ≤ 2000 →
      Calls Try.prog 80 #[c.v ah ch al cl, .agg #[p.1, p.2], out] w (TruthsPost W.heap.size w out (L ++ goOn c (c.loans.drop x.2.length) x.1 x.2)) := by
  intro n
  induction n with
  | zero =>
    intro x w p out L hn hx hW hp ho hL
    exact truths_done hl x w p out L (by omega) hp ho hW.size (by omega)
  | succ n ih =>
    intro x w p out L hn hx hW hp ho hL
    by_cases hmany : c.wrong < (wrongs x.2 : Int)
    · exact truths_many x w p out L (by omega) hp ho hmany
    · have IH := fun (x' : List Int × List Bool) (w' : World) (p' : Value × Value) (out' : Value) (L' : List (List Int × List Bool)) (h1 : x'.2.length = x.2.length + 1) => ih x' w' p' out' L' (by omega)
      have hlt : x.2.length < c.loans.length := by omega
      have hk : (gl c.loans x.2.length).kind = 0 ∨ (gl c.loans x.2.length).kind = 1 ∨ (gl c.loans x.2.length).kind = 2 := by
        have := loan_ok' hok hlt
        unfold Cab.loanOk at this
        split at this
        · exact .inl (by assumption)
        · split at this
          · exact .inr (.inl (by assumption))
          · split at this
            · exact .inr (.inr (by assumption))
            · cases this
      rcases hk with hk | hk | hk
      · exact rt_take hi li hok hs hh hl x w p out L hlt hx hW hp ho hL hmany IH hk
      · exact rt_back hi li hok hs hh hl x w p out L hlt hx hW hp ho hL hmany IH hk
      · exact rt_look hi li hok hs hh hl x w p out L hlt hx hW hp ho hL hmany IH hk

theorem step_append_run {P : Program} {ops : Array Oper} {w : World} {o : Oper} {a : Act} {K : Act → World → Prop} {Q : Exit → Act → World → Prop} {E : Prop} (hg : o.guard = none) (s x : Operand) (t : TypeId)
    (ho : o.op = .call { callee := .builtin .append, args := #[s, x], argTypes := #[t, t] }) (v xv v' : Value) (w' : World) (hs : a.eval s = v) (hx : a.eval x = xv)
    (hr : (Builtin.append_ #[t, t] o.type #[v, xv]).run P w = .ok v' w') (h : K (a.put o.dst v') w') : if Region.wanted o (yielded ops a.tmps) = true then Oper.wp P o a w K Q else E := by
  have hw : Region.wanted o (yielded ops a.tmps) = true := by simp [Region.wanted, hg]
  rw [if_pos hw]
  exact wp_append_run s x t ho v xv v' w' hs hx hr h
/-- What 'All' comes to: all truths, in the document's order, in memory of the call's own. -/
def AllPost (c : Cab) (w : World) (e : Ending) (w' : World) : Prop := ∃ v, e = .returned v ∧ Outs w' w.heap.size v (truths c) ∧ Below w.heap.size w w'
set_option maxRecDepth 100000 in
set_option maxHeartbeats 2000000 in
theorem allR_any {c : Cab} {ah : Option Addr} {ch : Nat} {al : Option Addr} {cl : Nat} {w : World} (hi : IsInts w ah c.homes) (li : IsLoans w al c.loans) (hok : ∀ l ∈ c.loans, c.loanOk l = true) (hs : 1 ≤ c.slots ∧ c.slots ≤ 6) (hh : c.homes.length ≤ 5) (hl : c.loans.length ≤ 12) (hb : backN c.loans ≤ 4) :
    Calls Try.prog 39 #[c.v ah ch al cl] w (AllPost c w) := by
  obtain ⟨W1, hW1⟩ : ∃ W1 : World, W1 = w.alloc (.cells #[.int .i64 c.slots, .slice ah c.homes.length ch, .int .i64 c.wrong, .slice al c.loans.length cl] 25) := ⟨_, rfl⟩
  have hb1 : Below w.heap.size w W1 := by rw [hW1]; exact (Below.refl _ w).alloc (Nat.le_refl _) _
  have hA : W1.heap[w.heap.size]? = some (.cells (c.cells ah ch al cl) 25 (0, 0)) := by rw [hW1]; exact World.alloc_heap_new _ _
  have hz1 : W1.heap.size = w.heap.size + 1 := by rw [hW1]; simp
  have a0 : ∀ o, W1.cell? ⟨w.heap.size, o, none⟩ = (c.cells ah ch al cl)[o]? := fun o => cell_of_heap hA
  have c0 : W1.cell? ⟨w.heap.size, 0, none⟩ = some (.int .i64 c.slots) := a0 0
  have c1 : W1.cell? ⟨w.heap.size, 1, none⟩ = some (.slice ah c.homes.length ch) := a0 1
  have c2 : W1.cell? ⟨w.heap.size, 2, none⟩ = some (.int .i64 c.wrong) := a0 2
  have c3 : W1.cell? ⟨w.heap.size, 3, none⟩ = some (.slice al c.loans.length cl) := a0 3
  obtain ⟨i0, hi0, hz0, hz1', hz2⟩ := info_parts infoI
  have hcount := truths_count hs.2 hb
  have HT := Lib.hid (truths_any (hi.mono hb1) (li.mono hb1) hok hs hh hl (ah := ah) (ch := ch) (cl := cl) c.loans.length (c.homes, []) )
  have HC := Lib.hid hcount
  have HI := Lib.hid (And.intro (hi.mono hb1) hb1)
  have HP : Hid (i0.zero = some (.int .i64 0) ∧ i0.size = 1 ∧ i0.bytes = 8 ∧ Try.prog.info? 3 = some i0) := ⟨hz0, hz1', hz2, hi0⟩
  have HW := Lib.hid (And.intro hW1 hz1)
  have HA := Lib.hid hA
  clear hW1 hb1 hA hz1 a0 hi0 hz0 hz1' hz2 hcount hi li hok
  have KP : Hid (∀ w', Below W1.heap.size W1 w' → (w'.cell? ⟨w.heap.size, 0, none⟩ = some (.int .i64 c.slots) ∧ w'.cell? ⟨w.heap.size, 1, none⟩ = some (.slice ah c.homes.length ch) ∧ w'.cell? ⟨w.heap.size, 2, none⟩ = some (.int .i64 c.wrong) ∧ w'.cell? ⟨w.heap.size, 3, none⟩ = some (.slice al c.loans.length cl) ∧ Below W1.heap.size W1 w')) :=
    fun w' h => ⟨cell_stays h c0, cell_stays h c1, cell_stays h c2, cell_stays h c3, h⟩
  clear c0 c1 c2 c3
  go_enter Try.func39, Try.ntmps39
  go_wp2
  have hW1 := HW.out.1
  rw [← hW1]
  clear hW1
  go_region_held3 (fun w' => w'.cell? ⟨w.heap.size, 0, none⟩ = some (.int .i64 c.slots) ∧ w'.cell? ⟨w.heap.size, 1, none⟩ = some (.slice ah c.homes.length ch) ∧ w'.cell? ⟨w.heap.size, 2, none⟩ = some (.int .i64 c.wrong) ∧ w'.cell? ⟨w.heap.size, 3, none⟩ = some (.slice al c.loans.length cl) ∧ Below W1.heap.size W1 w')
    (first | exact KP.out _ S4 | exact KP.out _ S3 | exact KP.out _ ((Below.refl _ W1).drew.alloc (Nat.le_refl _) _) | exact KP.out _ (Below.refl _ W1).drew)
    (first
      | (obtain ⟨v3, w3, hr3, O3, hg3⟩ := append_rows (P := Try.prog) (w := W1.drew.alloc (.cells #[] 3)) W1.heap.size 22 22 3 i0 _ 1 8 Try.underlying22 HP.out.2.2.2 HP.out.1 HP.out.2.1 HP.out.2.2.1 rfl (by decide) (.slice (some ⟨W1.heap.size, 0, none⟩) 0 0) 0 [] (World.ownsRow_made W1.drew #[] 0 (Nat.le_refl _) (by simp [maxLen]) (by simp)) ah c.homes.length ch (c.homes.map (Value.int .i64)) (by simp) (ints_of_news (HI.out.1.mono ((Below.refl _ W1).drew.alloc (Nat.le_refl _) _))) (one_ints _) (by simp [maxLen]; omega) (by omega) (by simp); rw [Nat.zero_add, List.nil_append] at O3; obtain ⟨a3, k3, e3, _⟩ := own_slice O3; subst e3; refine step_append_run rfl (.tmp 4) (.tmp 6) 22 rfl _ _ _ _ (by rfl) (by rfl) hr3 ?_; have S3 : Below W1.heap.size W1 w3 := ((Below.refl _ W1).drew.alloc (Nat.le_refl _) _).grown hg3 (by simp) (fun k hk => by simp [Value.ownBlock] at hk; subst hk; exact Nat.le_refl _); skip)
      | (go_at_call 80; have C80 := HT.out w3 (_, .slice none 0 0) (.slice none 0 0) [] (by simp) (by first | trivial | rfl) S3 ⟨O3, World.ownsRow_nil _ _ _ _⟩ (Outs.nil _ _) (by have := HC.out; simp [goOn_all]; omega); (with_reducible refine C80.mono ?_); clear C80; rintro e w4 ⟨v', rfl, hO4, hg4, hv4⟩; have S4 : Below W1.heap.size W1 w4 := S3.grown hg4 S3.size (fun k hk => by simp [Value.ownBlock] at hk)))
  go_wp2
  go_ret
  have hb := HI.out.2
  have hz := HW.out.2
  refine ⟨_, rfl, ?_, hb.trans (S4.mono (by omega))⟩
  have h : Outs w4 W1.heap.size v' (truths c) := by
    have := hO4
    simp [goOn_all] at this
    exact this
  obtain ⟨vs, h1, h2, h3⟩ := h
  exact ⟨vs, h1, own_base h2 (by omega), fun i x p hx hp => ⟨own_base (h3 i x p hx hp).1 (by omega), own_base (h3 i x p hx hp).2 (by omega)⟩⟩
end Go.Proofs.Ytlhobddaojdnoaa
