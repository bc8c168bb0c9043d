/- The reference's truths: all of them, in its order. -/
import Derived.Test.YtlhobddaojdnoaaT3
import Derived.Deep.RegionHeld3
namespace Go.Proofs.Ytlhobddaojdnoaa
open Go.RowKit
set_option linter.unusedVariables false

set_option maxRecDepth 100000 in
set_option maxHeartbeats 2000000 in
theorem rt_take {c : Cab} {ah : Option Addr} {ch : Nat} {al : Option Addr} {cl : Nat} {W : World} (hi : IsInts W ah c.homes) (li : IsLoans W al c.loans) (hok : ∀ l ∈ c.loans, c.loanOk l = true) (hs : 1 ≤ c.slots ∧ c.slots ≤ 6) (hh : c.homes.length ≤ 5) (hl : c.loans.length ≤ 12)
    (x : List Int × List Bool) (w : World) (p : Value × Value) (out : Value) (L : List (List Int × List Bool)) (hlt : x.2.length < c.loans.length) (hx : x.1.length = c.homes.length) (hW : Below W.heap.size W w) (hp : OwnT w W.heap.size x p) (ho : Outs w W.heap.size out L)
    (hL : L.length + (goOn c (c.loans.drop x.2.length) x.1 x.2).length ≤ 2000) (hmany : ¬ c.wrong < (wrongs x.2 : Int))
    (IH : ∀ (x' : List Int × List Bool) (w' : World) (p' : Value × Value) (out' : Value) (L' : List (List Int × List Bool)), x'.2.length = x.2.length + 1 → x'.1.length = c.homes.length → Below W.heap.size W w' → OwnT w' W.heap.size x' p' → Outs w' W.heap.size out' L' →
      L'.length + (goOn c (c.loans.drop x'.2.length) x'.1 x'.2).length ≤ 2000 → Calls Try.prog 80 #[c.v ah ch al cl, .agg #[p'.1, p'.2], out'] w' (TruthsPost W.heap.size w' out' (L' ++ goOn c (c.loans.drop x'.2.length) x'.1 x'.2))) (hkind : (gl c.loans x.2.length).kind = 0) :
    Calls Try.prog 80 #[c.v ah ch al cl, .agg #[p.1, p.2], out] w (TruthsPost W.heap.size w out (L ++ goOn c (c.loans.drop x.2.length) x.1 x.2)) := by
    obtain ⟨⟨kd, ca, pe, sl⟩, hll⟩ : ∃ l : Ln, gl c.loans x.2.length = l := ⟨_, rfl⟩
    have hlok := loan_ok' hok hlt
    have hdrop := drop_loan hlt
    rw [hll] at hkind hlok hdrop
    rw [hdrop, goOn_cons] at hL ⊢
    simp only at hkind
    subst hkind
    have hcard : c.card ca = true := by
      simp [Cab.loanOk, Cab.lent] at hlok
      exact hlok.1
    obtain ⟨j, hj1, hj2⟩ := card_in (c := c) (l := ⟨0, ca, pe, sl⟩) hcard
    simp only at hj1
    subst hj1
    have hjx : j < x.1.length := by omega
    have hstep : step c x.1 ⟨0, j, pe, sl⟩ = if gi x.1 j = -1 then [] else [(x.1.set j (-1), false)] := by simp [step]
    rw [hstep] at hL ⊢
    have hle : ((x.2.length : Int) == (c.loans.length : Int)) = false := by simp; omega
    have hdm : decide (c.wrong < (wrongs x.2 : Int)) = false := by simpa using hmany
    have hln : x.2.length ≤ c.loans.length := by omega
    clear hstep hdrop hlok hmany
    obtain ⟨p1, p2⟩ := p
    obtain ⟨pa, pc, rfl, pi⟩ := own_ints hp.1 rfl
    obtain ⟨qa, qc, rfl, qi⟩ := own_bools hp.2 rfl
    obtain ⟨W1, hW1⟩ : ∃ W1 : World, W1 = (w.alloc (.cells #[.int .i64 c.slots, .slice ah c.homes.length ch, .int .i64 c.wrong, .slice al c.loans.length cl] 25)).alloc (.cells #[.slice pa x.1.length pc, .slice qa x.2.length qc] 56) := ⟨_, rfl⟩
    have hb1 : Below w.heap.size w W1 := by rw [hW1]; exact ((Below.refl _ w).alloc (Nat.le_refl _) _).alloc (by simp) _
    have hz1 : W1.heap.size = w.heap.size + 2 := by rw [hW1]; simp
    have hA : W1.heap[w.heap.size]? = some (.cells (c.cells ah ch al cl) 25 (0, 0)) := by rw [hW1]; exact heap_alloc2_0 _ _ _
    have hB : W1.heap[w.heap.size + 1]? = some (.cells #[.slice pa x.1.length pc, .slice qa x.2.length qc] 56 (0, 0)) := by
      rw [hW1]
      have := World.alloc_heap_new (w.alloc (.cells (c.cells ah ch al cl) 25)) (.cells #[.slice pa x.1.length pc, .slice qa x.2.length qc] 56)
      rwa [World.size_alloc] at this
    have hT : IsTruth W1 x (.slice pa x.1.length pc) (.slice qa x.2.length qc) := IsTruth.mono ⟨⟨_, _, rfl, pi⟩, ⟨_, _, rfl, qi⟩⟩ hb1
    have a0 : ∀ o, W1.cell? ⟨w.heap.size, o, none⟩ = (c.cells ah ch al cl)[o]? := fun o => cell_of_heap hA
    have a1 : ∀ o, W1.cell? ⟨w.heap.size + 1, o, none⟩ = (#[.slice pa x.1.length pc, .slice qa x.2.length qc] : Array Value)[o]? := fun o => cell_of_heap hB
    have c0 : W1.cell? ⟨w.heap.size, 0, none⟩ = some (.int .i64 c.slots) := a0 0
    have c1 : W1.cell? ⟨w.heap.size, 1, none⟩ = some (.slice ah c.homes.length ch) := a0 1
    have c2 : W1.cell? ⟨w.heap.size, 2, none⟩ = some (.int .i64 c.wrong) := a0 2
    have c3 : W1.cell? ⟨w.heap.size, 3, none⟩ = some (.slice al c.loans.length cl) := a0 3
    have t0 : W1.cell? ⟨w.heap.size + 1, 0, none⟩ = some (.slice pa x.1.length pc) := a1 0
    have t1 : W1.cell? ⟨w.heap.size + 1, 1, none⟩ = some (.slice qa x.2.length qc) := a1 1
    have x0 := fun y : Aft W1.heap.size W1 => cell_stays y.h t0
    have x1 := fun y : Aft W1.heap.size W1 => cell_stays y.h t1
    have x2 := fun y : Aft W1.heap.size W1 => cell_stays y.h c2
    have hm : x.2.length ≤ 100 := by omega
    obtain ⟨lb, lo, rfl, l0, l1, l2, l3⟩ := li x.2.length hlt
    rw [hll] at l0 l1 l2 l3
    simp only at l0 l1 l2 l3
    by_cases hg : gi x.1 j = -1
    · rw [if_pos hg] at hL ⊢
      simp only [List.flatMap_nil, List.append_nil]
      have hgb : (gi x.1 j == -1) = true := by simp [hg]
      clear hg
      have HN := Lib.hid (And.intro hW1 (And.intro hx (And.intro hz1 hll)))
      clear hx hz1 hW1 a0 a1 hA hB hL IH hll
      go_enter Try.func80, Try.ntmps80
      go_wp2
      have hW1 := HN.out.1
      rw [← hW1]
      clear hW1
      refine wp_region_aft mixed (by kernel_rfl) ?_
      repeat (go_big_quiet_step ((go_at_call 87; exact calls_aft (rwrongs_any (hT.mono (Aft.h _)) hm))))
      refine wpQuiet_nil ?_
      rintro _ ⟨y, rfl⟩
      have y0 := cell_stays y.h c0
      have y1 := cell_stays y.h c1
      have y2 := cell_stays y.h c2
      have y3 := cell_stays y.h c3
      have z0 := cell_stays y.h t0
      have z1 := cell_stays y.h t1
      clear x0 x1 x2 c0 c1 c2 c3 t0 t1
      have hby : Below w.heap.size w y.v := bst hb1 y.h
      have hWy : Below W.heap.size W y.v := hW.trans (hby.mono hW.size)
      have k0 := cell_stays hWy l0
      have k1 := cell_stays hWy l1
      have k2 := cell_stays hWy l2
      have k3 := cell_stays hWy l3
      clear l0 l1 l2 l3
      have ly := lt_of_cell y0
      have lz := lt_of_cell z0
      have lk := lt_of_cell k0
      obtain ⟨ab, ao, rfl, ac⟩ := pi.mono hby j hjx
      have lac := lt_of_cell ac
      go_wp2
      go_ret
      have hbz := hby.alloc hby.size (.cells #[.int .i64 0, .int .i64 j, .int .i64 pe, .int .i64 sl] 48)
      exact ⟨_, rfl, ho.below hbz, grown_of_below hbz _, fun g h => .inl h⟩
    · rw [if_neg hg] at hL ⊢
      simp only [List.flatMap_cons, List.flatMap_nil, List.append_nil] at hL ⊢
      have hgb : (gi x.1 j == -1) = false := by simpa using hg
      clear hg
      have HN := Lib.hid (And.intro hW1 (And.intro hx (And.intro hz1 hll)))
      have HX := Lib.hid hx
      have HIH := Lib.hid IH
      have HL := Lib.hid hL
      have hz1' := Lib.hid hz1
      clear hx hz1 hW1 a0 a1 hA hB hL IH hll
      go_enter Try.func80, Try.ntmps80
      go_wp2
      have hW1 := HN.out.1
      rw [← hW1]
      clear hW1
      refine wp_region_aft mixed (by kernel_rfl) ?_
      repeat (go_big_quiet_step ((go_at_call 87; exact calls_aft (rwrongs_any (hT.mono (Aft.h _)) hm))))
      refine wpQuiet_nil ?_
      rintro _ ⟨y, rfl⟩
      have y0 := cell_stays y.h c0
      have y1 := cell_stays y.h c1
      have y2 := cell_stays y.h c2
      have y3 := cell_stays y.h c3
      have z0 := cell_stays y.h t0
      have z1 := cell_stays y.h t1
      clear x0 x1 x2 c0 c1 c2 c3 t0 t1
      have hby : Below w.heap.size w y.v := bst hb1 y.h
      have hWy : Below W.heap.size W y.v := hW.trans (hby.mono hW.size)
      have k0 := cell_stays hWy l0
      have k1 := cell_stays hWy l1
      have k2 := cell_stays hWy l2
      have k3 := cell_stays hWy l3
      clear l0 l1 l2 l3
      have ly := lt_of_cell y0
      have lz := lt_of_cell z0
      have lk := lt_of_cell k0
      have hTy := (hT.mono y.h)
      obtain ⟨ab, ao, rfl, ac⟩ := pi.mono hby j hjx
      have lac := lt_of_cell ac
      go_wp2
      obtain ⟨w2, hw2⟩ : ∃ w2 : World, w2 = y.v.alloc (.cells #[(.int .i64 0), (.int .i64 j), (.int .i64 pe), (.int .i64 sl)] 48) := ⟨_, rfl⟩
      have hby2 : Below y.v.heap.size y.v w2 := by rw [hw2]; exact (Below.refl _ y.v).alloc (Nat.le_refl _) _
      have hb2 : Below w.heap.size w w2 := bst hby hby2
      have hz2 : w2.heap.size = y.v.heap.size + 1 := by rw [hw2]; simp
      have h7 : w2.heap[y.v.heap.size]? = some (.cells #[(.int .i64 0), (.int .i64 j), (.int .i64 pe), (.int .i64 sl)] 48 (0, 0)) := by rw [hw2]; exact World.alloc_heap_new _ _
      have m0 : w2.cell? ⟨y.v.heap.size, 0, none⟩ = some (.int .i64 0) := by rw [cell_of_heap h7]; rfl
      have m1 : w2.cell? ⟨y.v.heap.size, 1, none⟩ = some (.int .i64 j) := by rw [cell_of_heap h7]; rfl
      have m3 : w2.cell? ⟨y.v.heap.size, 3, none⟩ = some (.int .i64 sl) := by rw [cell_of_heap h7]; rfl
      have v0 := cell_stays hby2 y0
      have v1 := cell_stays hby2 y1
      have v2 := cell_stays hby2 y2
      have v3 := cell_stays hby2 y3
      have u0 := cell_stays hby2 z0
      have u1 := cell_stays hby2 z1
      have hT2 := hTy.mono hby2
      have hO2 := ho.below hb2
      have hp2 := OwnT.below hp hb2
      have hW2 : Below W.heap.size W w2 := hWy.trans (hby2.mono hWy.size)
      have hWs : W.heap.size ≤ w.heap.size := hW.size
      have hws : w.heap.size + 2 ≤ y.v.heap.size := by have := y.h.size; have := hz1'.out; omega
      have HMlt : Hid (∀ k, out.ownBlock = some k → k < w.heap.size) := fun k hk => (ho.lt k hk).2
      have HZ2 := Lib.hid hz2
      rw [← hw2]
      clear hw2 hz2
      have n3 : ¬ out.ownBlock = some w.heap.size := fun e => by have := HMlt.out _ e; omega
      have n4 : ¬ out.ownBlock = some (w.heap.size + 1) := fun e => by have := HMlt.out _ e; omega
      have n7 : ¬ out.ownBlock = some y.v.heap.size := fun e => by have := HMlt.out _ e; omega
      clear hTy hT y0 y1 y2 y3 z0 z1 k0 k1 k2 k3 h7 hp2
      have KP : Hid (∀ w', Same (fun k => out.ownBlock = some k) w2 w' → (w'.cell? ⟨w.heap.size, 0, none⟩ = some (.int .i64 c.slots) ∧ w'.cell? ⟨w.heap.size, 1, none⟩ = some (.slice ah c.homes.length ch) ∧ w'.cell? ⟨w.heap.size, 2, none⟩ = some (.int .i64 c.wrong) ∧ w'.cell? ⟨w.heap.size, 3, none⟩ = some (.slice (some ⟨lb, lo, none⟩) c.loans.length cl) ∧ w'.cell? ⟨w.heap.size + 1, 0, none⟩ = some (.slice (some ⟨ab, ao, none⟩) x.1.length pc) ∧ w'.cell? ⟨w.heap.size + 1, 1, none⟩ = some (.slice qa x.2.length qc) ∧ w'.cell? ⟨y.v.heap.size, 1, none⟩ = some (.int .i64 j) ∧ Same (fun k => out.ownBlock = some k) w2 w')) :=
        fun w' hS => ⟨hS.cell v0 n3, hS.cell v1 n3, hS.cell v2 n3, hS.cell v3 n3, hS.cell u0 n4, hS.cell u1 n4, hS.cell m1 n7, hS⟩
      obtain ⟨_, _, e1, i1⟩ := hT2.at_
      obtain ⟨_, _, e2, i2⟩ := hT2.wr
      cases e1
      cases e2
      have HI := Lib.hid (And.intro i1 i2)
      have HO2 := Lib.hid hO2
      have HW2 := Lib.hid hW2
      have hx5 : x.1.length ≤ 5 := by have := HX.out; omega
      have hxs : W.heap.size ≤ w2.heap.size := hW2.size
      clear v0 v1 v2 v3 u0 u1 i1 i2 hT2 hO2 hW2 m0 m1 m3
      go_region_held3 (fun w' => w'.cell? ⟨w.heap.size, 0, none⟩ = some (.int .i64 c.slots) ∧ w'.cell? ⟨w.heap.size, 1, none⟩ = some (.slice ah c.homes.length ch) ∧ w'.cell? ⟨w.heap.size, 2, none⟩ = some (.int .i64 c.wrong) ∧ w'.cell? ⟨w.heap.size, 3, none⟩ = some (.slice (some ⟨lb, lo, none⟩) c.loans.length cl) ∧ w'.cell? ⟨w.heap.size + 1, 0, none⟩ = some (.slice (some ⟨ab, ao, none⟩) x.1.length pc) ∧ w'.cell? ⟨w.heap.size + 1, 1, none⟩ = some (.slice qa x.2.length qc) ∧ w'.cell? ⟨y.v.heap.size, 1, none⟩ = some (.int .i64 j) ∧ Same (fun k => out.ownBlock = some k) w2 w') (first | exact KP.out _ S4 | exact KP.out _ S3 | exact KP.out _ (Same.refl _ w2).drew)
        (first
          | (go_at_call 88; have C88 := (with_any (x := x) (ca := pc) (cb := qc) (HI.out.1.mono (Below.refl _ w2).drew) (HI.out.2.mono (Below.refl _ w2).drew) hx5 hm (j : Int) (-1) false (.inr ⟨by omega, by omega⟩)); (with_reducible refine C88.mono ?_); clear C88; rintro e w3 ⟨va, vb, rfl, o1, o2, hb3⟩; have S3 : Same (fun k => out.ownBlock = some k) w2 w3 := (Same.refl _ w2).drew.trans (Same.of_below _ hb3); rw [if_neg (show ¬ (j : Int) = -1 by omega), Int.toNat_natCast] at o1)
          | (go_at_call 80; have C80 := (HIH.out (x.1.set j (-1), x.2 ++ [false]) _ (va, vb) out L (by simp) (by have := HX.out; simp [this]) (HW2.out.trans (((Below.refl _ w2).drew.trans hb3).mono hxs)) ⟨by simpa using own_base o1 hxs, by simpa using own_base o2 hxs⟩ (HO2.out.below ((Below.refl _ w2).drew.trans hb3)) (by have := HL.out; simpa using this)); (with_reducible refine C80.mono ?_); clear C80; rintro e w4 ⟨v', rfl, hO4, hg4, hv4⟩; have S4 : Same (fun k => out.ownBlock = some k) w2 w4 := S3.grown hg4 (fun k hk => .inl hk)))
      go_wp2
      go_ret
      have hsz := hb2.size
      have hf : w.grownBy w4 out.ownBlock := ⟨S4.os.trans hb2.os, S4.tape.trans hb2.tape, S4.output.trans hb2.output, Nat.le_trans hb2.size S4.size, fun k hk hne => (S4.block k (by omega) (fun e => hne e.symm)).trans (hb2.block k hk)⟩
      refine ⟨_, rfl, ?_, hf, fun g hg => ?_⟩
      · simpa using hO4
      · rcases hv4 g hg with h | h
        · exact .inl h
        · have := S3.size
          exact .inr (by omega)
set_option maxRecDepth 100000 in
set_option maxHeartbeats 2000000 in
theorem rt_look {c : Cab} {ah : Option Addr} {ch : Nat} {al : Option Addr} {cl : Nat} {W : World} (hi : IsInts W ah c.homes) (li : IsLoans W al c.loans) (hok : ∀ l ∈ c.loans, c.loanOk l = true) (hs : 1 ≤ c.slots ∧ c.slots ≤ 6) (hh : c.homes.length ≤ 5) (hl : c.loans.length ≤ 12)
    (x : List Int × List Bool) (w : World) (p : Value × Value) (out : Value) (L : List (List Int × List Bool)) (hlt : x.2.length < c.loans.length) (hx : x.1.length = c.homes.length) (hW : Below W.heap.size W w) (hp : OwnT w W.heap.size x p) (ho : Outs w W.heap.size out L)
    (hL : L.length + (goOn c (c.loans.drop x.2.length) x.1 x.2).length ≤ 2000) (hmany : ¬ c.wrong < (wrongs x.2 : Int))
    (IH : ∀ (x' : List Int × List Bool) (w' : World) (p' : Value × Value) (out' : Value) (L' : List (List Int × List Bool)), x'.2.length = x.2.length + 1 → x'.1.length = c.homes.length → Below W.heap.size W w' → OwnT w' W.heap.size x' p' → Outs w' W.heap.size out' L' →
      L'.length + (goOn c (c.loans.drop x'.2.length) x'.1 x'.2).length ≤ 2000 → Calls Try.prog 80 #[c.v ah ch al cl, .agg #[p'.1, p'.2], out'] w' (TruthsPost W.heap.size w' out' (L' ++ goOn c (c.loans.drop x'.2.length) x'.1 x'.2))) (hkind : (gl c.loans x.2.length).kind = 2) :
    Calls Try.prog 80 #[c.v ah ch al cl, .agg #[p.1, p.2], out] w (TruthsPost W.heap.size w out (L ++ goOn c (c.loans.drop x.2.length) x.1 x.2)) := by
    obtain ⟨⟨kd, ca, pe, sl⟩, hll⟩ : ∃ l : Ln, gl c.loans x.2.length = l := ⟨_, rfl⟩
    have hlok := loan_ok' hok hlt
    have hdrop := drop_loan hlt
    rw [hll] at hkind hlok hdrop
    rw [hdrop, goOn_cons] at hL ⊢
    simp only at hkind
    subst hkind
    have hstep : step c x.1 ⟨2, ca, pe, sl⟩ = if lies x.1 sl = ca then [(x.1, false)] else [] := by simp [step]
    rw [hstep] at hL ⊢
    have hle : ((x.2.length : Int) == (c.loans.length : Int)) = false := by simp; omega
    have hdm : decide (c.wrong < (wrongs x.2 : Int)) = false := by simpa using hmany
    have hln : x.2.length ≤ c.loans.length := by omega
    have hx5' : x.1.length ≤ 5 := by omega
    clear hstep hdrop hlok hmany
    obtain ⟨p1, p2⟩ := p
    obtain ⟨pa, pc, rfl, pi⟩ := own_ints hp.1 rfl
    obtain ⟨qa, qc, rfl, qi⟩ := own_bools hp.2 rfl
    obtain ⟨W1, hW1⟩ : ∃ W1 : World, W1 = (w.alloc (.cells #[.int .i64 c.slots, .slice ah c.homes.length ch, .int .i64 c.wrong, .slice al c.loans.length cl] 25)).alloc (.cells #[.slice pa x.1.length pc, .slice qa x.2.length qc] 56) := ⟨_, rfl⟩
    have hb1 : Below w.heap.size w W1 := by rw [hW1]; exact ((Below.refl _ w).alloc (Nat.le_refl _) _).alloc (by simp) _
    have hz1 : W1.heap.size = w.heap.size + 2 := by rw [hW1]; simp
    have hA : W1.heap[w.heap.size]? = some (.cells (c.cells ah ch al cl) 25 (0, 0)) := by rw [hW1]; exact heap_alloc2_0 _ _ _
    have hB : W1.heap[w.heap.size + 1]? = some (.cells #[.slice pa x.1.length pc, .slice qa x.2.length qc] 56 (0, 0)) := by
      rw [hW1]
      have := World.alloc_heap_new (w.alloc (.cells (c.cells ah ch al cl) 25)) (.cells #[.slice pa x.1.length pc, .slice qa x.2.length qc] 56)
      rwa [World.size_alloc] at this
    have hT : IsTruth W1 x (.slice pa x.1.length pc) (.slice qa x.2.length qc) := IsTruth.mono ⟨⟨_, _, rfl, pi⟩, ⟨_, _, rfl, qi⟩⟩ hb1
    have a0 : ∀ o, W1.cell? ⟨w.heap.size, o, none⟩ = (c.cells ah ch al cl)[o]? := fun o => cell_of_heap hA
    have a1 : ∀ o, W1.cell? ⟨w.heap.size + 1, o, none⟩ = (#[.slice pa x.1.length pc, .slice qa x.2.length qc] : Array Value)[o]? := fun o => cell_of_heap hB
    have c0 : W1.cell? ⟨w.heap.size, 0, none⟩ = some (.int .i64 c.slots) := a0 0
    have c1 : W1.cell? ⟨w.heap.size, 1, none⟩ = some (.slice ah c.homes.length ch) := a0 1
    have c2 : W1.cell? ⟨w.heap.size, 2, none⟩ = some (.int .i64 c.wrong) := a0 2
    have c3 : W1.cell? ⟨w.heap.size, 3, none⟩ = some (.slice al c.loans.length cl) := a0 3
    have t0 : W1.cell? ⟨w.heap.size + 1, 0, none⟩ = some (.slice pa x.1.length pc) := a1 0
    have t1 : W1.cell? ⟨w.heap.size + 1, 1, none⟩ = some (.slice qa x.2.length qc) := a1 1
    have x0 := fun y : Aft W1.heap.size W1 => cell_stays y.h t0
    have x1 := fun y : Aft W1.heap.size W1 => cell_stays y.h t1
    have x2 := fun y : Aft W1.heap.size W1 => cell_stays y.h c2
    have hm : x.2.length ≤ 100 := by omega
    obtain ⟨lb, lo, rfl, l0, l1, l2, l3⟩ := li x.2.length hlt
    rw [hll] at l0 l1 l2 l3
    simp only at l0 l1 l2 l3
    by_cases hg : lies x.1 sl = ca
    · rw [if_pos hg] at hL ⊢
      simp only [List.flatMap_cons, List.flatMap_nil, List.append_nil] at hL ⊢
      have hgb : (lies x.1 sl == ca) = true := by simp [hg]
      clear hg
      have HN := Lib.hid (And.intro hW1 (And.intro hx (And.intro hz1 hll)))
      have HX := Lib.hid hx
      have HIH := Lib.hid IH
      have HL := Lib.hid hL
      have hz1' := Lib.hid hz1
      clear hx hz1 hW1 a0 a1 hA hB hL IH hll
      go_enter Try.func80, Try.ntmps80
      go_wp2
      have hW1 := HN.out.1
      rw [← hW1]
      clear hW1
      refine wp_region_aft mixed (by kernel_rfl) ?_
      repeat (go_big_quiet_step ((go_at_call 87; exact calls_aft (rwrongs_any (hT.mono (Aft.h _)) hm))))
      refine wpQuiet_nil ?_
      rintro _ ⟨y, rfl⟩
      have y0 := cell_stays y.h c0
      have y1 := cell_stays y.h c1
      have y2 := cell_stays y.h c2
      have y3 := cell_stays y.h c3
      have z0 := cell_stays y.h t0
      have z1 := cell_stays y.h t1
      clear x0 x1 x2 c0 c1 c2 c3 t0 t1
      have hby : Below w.heap.size w y.v := bst hb1 y.h
      have hWy : Below W.heap.size W y.v := hW.trans (hby.mono hW.size)
      have k0 := cell_stays hWy l0
      have k1 := cell_stays hWy l1
      have k2 := cell_stays hWy l2
      have k3 := cell_stays hWy l3
      clear l0 l1 l2 l3
      have ly := lt_of_cell y0
      have lz := lt_of_cell z0
      have lk := lt_of_cell k0
      have hTy := (hT.mono y.h)
      go_wp2
      obtain ⟨w2, hw2⟩ : ∃ w2 : World, w2 = y.v.alloc (.cells #[(.int .i64 2), (.int .i64 ca), (.int .i64 pe), (.int .i64 sl)] 48) := ⟨_, rfl⟩
      have hby2 : Below y.v.heap.size y.v w2 := by rw [hw2]; exact (Below.refl _ y.v).alloc (Nat.le_refl _) _
      have hb2 : Below w.heap.size w w2 := bst hby hby2
      have hz2 : w2.heap.size = y.v.heap.size + 1 := by rw [hw2]; simp
      have h7 : w2.heap[y.v.heap.size]? = some (.cells #[(.int .i64 2), (.int .i64 ca), (.int .i64 pe), (.int .i64 sl)] 48 (0, 0)) := by rw [hw2]; exact World.alloc_heap_new _ _
      have m0 : w2.cell? ⟨y.v.heap.size, 0, none⟩ = some (.int .i64 2) := by rw [cell_of_heap h7]; rfl
      have m1 : w2.cell? ⟨y.v.heap.size, 1, none⟩ = some (.int .i64 ca) := by rw [cell_of_heap h7]; rfl
      have m3 : w2.cell? ⟨y.v.heap.size, 3, none⟩ = some (.int .i64 sl) := by rw [cell_of_heap h7]; rfl
      have v0 := cell_stays hby2 y0
      have v1 := cell_stays hby2 y1
      have v2 := cell_stays hby2 y2
      have v3 := cell_stays hby2 y3
      have u0 := cell_stays hby2 z0
      have u1 := cell_stays hby2 z1
      have hT2 := hTy.mono hby2
      have hO2 := ho.below hb2
      have hp2 := OwnT.below hp hb2
      have hW2 : Below W.heap.size W w2 := hWy.trans (hby2.mono hWy.size)
      have hWs : W.heap.size ≤ w.heap.size := hW.size
      have hws : w.heap.size + 2 ≤ y.v.heap.size := by have := y.h.size; have := hz1'.out; omega
      have HMlt : Hid (∀ k, out.ownBlock = some k → k < w.heap.size) := fun k hk => (ho.lt k hk).2
      have HZ2 := Lib.hid hz2
      rw [← hw2]
      clear hw2 hz2
      clear hTy hT y0 y1 y2 y3 z0 z1 k0 k1 k2 k3 h7 hp2
      have x0 := fun y' : Aft w2.heap.size w2 => cell_stays y'.h u0
      have x1 := fun y' : Aft w2.heap.size w2 => cell_stays y'.h u1
      have x2 := fun y' : Aft w2.heap.size w2 => cell_stays y'.h m1
      have x3 := fun y' : Aft w2.heap.size w2 => cell_stays y'.h m3
      refine wp_region_aft mixed (by kernel_rfl) ?_
      repeat (go_big_quiet_step ((go_at_call 41; exact calls_aft (rlies_any (hT2.mono (Aft.h _)) hx5' sl))))
      refine wpQuiet_nil ?_
      rintro _ ⟨r, rfl⟩
      have v0 := cell_stays r.h v0
      have v1 := cell_stays r.h v1
      have v2 := cell_stays r.h v2
      have v3 := cell_stays r.h v3
      have u0 := cell_stays r.h u0
      have u1 := cell_stays r.h u1
      have hT2 := hT2.mono r.h
      have hO2 := hO2.below r.h
      have hW2 : Below W.heap.size W r.v := hW2.trans (r.h.mono hW2.size)
      have hb2 : Below w.heap.size w r.v := bst hb2 r.h
      clear x0 x1 x2 x3 m0 m1 m3
      go_wp2
      obtain ⟨w5, hw5⟩ : ∃ w5 : World, w5 = r.v := ⟨_, rfl⟩
      rw [← hw5] at v0 v1 v2 v3 u0 u1 hT2 hO2 hW2 hb2 ⊢
      clear hw5
      have n3 : ¬ out.ownBlock = some w.heap.size := fun e => by have := HMlt.out _ e; omega
      have n4 : ¬ out.ownBlock = some (w.heap.size + 1) := fun e => by have := HMlt.out _ e; omega
      have n7 : ¬ out.ownBlock = some y.v.heap.size := fun e => by have := HMlt.out _ e; omega
      have KP : Hid (∀ w', Same (fun k => out.ownBlock = some k) w5 w' → (w'.cell? ⟨w.heap.size, 0, none⟩ = some (.int .i64 c.slots) ∧ w'.cell? ⟨w.heap.size, 1, none⟩ = some (.slice ah c.homes.length ch) ∧ w'.cell? ⟨w.heap.size, 2, none⟩ = some (.int .i64 c.wrong) ∧ w'.cell? ⟨w.heap.size, 3, none⟩ = some (.slice (some ⟨lb, lo, none⟩) c.loans.length cl) ∧ w'.cell? ⟨w.heap.size + 1, 0, none⟩ = some (.slice pa x.1.length pc) ∧ w'.cell? ⟨w.heap.size + 1, 1, none⟩ = some (.slice qa x.2.length qc) ∧ Same (fun k => out.ownBlock = some k) w5 w')) :=
        fun w' hS => ⟨hS.cell v0 n3, hS.cell v1 n3, hS.cell v2 n3, hS.cell v3 n3, hS.cell u0 n4, hS.cell u1 n4, hS⟩
      obtain ⟨_, _, e1, i1⟩ := hT2.at_
      obtain ⟨_, _, e2, i2⟩ := hT2.wr
      cases e1
      cases e2
      have HI := Lib.hid (And.intro i1 i2)
      have HO2 := Lib.hid hO2
      have HW2 := Lib.hid hW2
      have hx5 : x.1.length ≤ 5 := by have := HX.out; omega
      have hxs : W.heap.size ≤ w5.heap.size := hW2.size
      clear v0 v1 v2 v3 u0 u1 i1 i2 hT2 hO2 hW2 
      go_region_held3 (fun w' => w'.cell? ⟨w.heap.size, 0, none⟩ = some (.int .i64 c.slots) ∧ w'.cell? ⟨w.heap.size, 1, none⟩ = some (.slice ah c.homes.length ch) ∧ w'.cell? ⟨w.heap.size, 2, none⟩ = some (.int .i64 c.wrong) ∧ w'.cell? ⟨w.heap.size, 3, none⟩ = some (.slice (some ⟨lb, lo, none⟩) c.loans.length cl) ∧ w'.cell? ⟨w.heap.size + 1, 0, none⟩ = some (.slice pa x.1.length pc) ∧ w'.cell? ⟨w.heap.size + 1, 1, none⟩ = some (.slice qa x.2.length qc) ∧ Same (fun k => out.ownBlock = some k) w5 w') (first | exact KP.out _ S4 | exact KP.out _ S3 | exact KP.out _ (Same.refl _ w5).drew)
        (first
          | (go_at_call 88; have C88 := (with_any (x := x) (ca := pc) (cb := qc) (HI.out.1.mono (Below.refl _ w5).drew) (HI.out.2.mono (Below.refl _ w5).drew) hx5 hm (-1) 0 false (.inl rfl)); (with_reducible refine C88.mono ?_); clear C88; rintro e w3 ⟨va, vb, rfl, o1, o2, hb3⟩; have S3 : Same (fun k => out.ownBlock = some k) w5 w3 := (Same.refl _ w5).drew.trans (Same.of_below _ hb3); rw [if_pos rfl] at o1)
          | (go_at_call 80; have C80 := (HIH.out (x.1, x.2 ++ [false]) _ (va, vb) out L (by simp) (by have := HX.out; simp [this]) (HW2.out.trans (((Below.refl _ w5).drew.trans hb3).mono hxs)) ⟨by simpa using own_base o1 hxs, by simpa using own_base o2 hxs⟩ (HO2.out.below ((Below.refl _ w5).drew.trans hb3)) (by have := HL.out; simpa using this)); (with_reducible refine C80.mono ?_); clear C80; rintro e w4 ⟨v', rfl, hO4, hg4, hv4⟩; have S4 : Same (fun k => out.ownBlock = some k) w5 w4 := S3.grown hg4 (fun k hk => .inl hk)))
      go_wp2
      go_ret
      have hsz := hb2.size
      have hf : w.grownBy w4 out.ownBlock := ⟨S4.os.trans hb2.os, S4.tape.trans hb2.tape, S4.output.trans hb2.output, Nat.le_trans hb2.size S4.size, fun k hk hne => (S4.block k (by omega) (fun e => hne e.symm)).trans (hb2.block k hk)⟩
      refine ⟨_, rfl, ?_, hf, fun g hg => ?_⟩
      · simpa using hO4
      · rcases hv4 g hg with h | h
        · exact .inl h
        · have := S3.size
          exact .inr (by omega)
    · rw [if_neg hg] at hL ⊢
      simp only [List.flatMap_nil, List.append_nil]
      have hgb : (lies x.1 sl == ca) = false := by simpa using hg
      clear hg
      have HN := Lib.hid (And.intro hW1 (And.intro hx (And.intro hz1 hll)))
      have HX := Lib.hid hx
      have HIH := Lib.hid IH
      have HL := Lib.hid hL
      have hz1' := Lib.hid hz1
      clear hx hz1 hW1 a0 a1 hA hB hL IH hll
      go_enter Try.func80, Try.ntmps80
      go_wp2
      have hW1 := HN.out.1
      rw [← hW1]
      clear hW1
      refine wp_region_aft mixed (by kernel_rfl) ?_
      repeat (go_big_quiet_step ((go_at_call 87; exact calls_aft (rwrongs_any (hT.mono (Aft.h _)) hm))))
      refine wpQuiet_nil ?_
      rintro _ ⟨y, rfl⟩
      have y0 := cell_stays y.h c0
      have y1 := cell_stays y.h c1
      have y2 := cell_stays y.h c2
      have y3 := cell_stays y.h c3
      have z0 := cell_stays y.h t0
      have z1 := cell_stays y.h t1
      clear x0 x1 x2 c0 c1 c2 c3 t0 t1
      have hby : Below w.heap.size w y.v := bst hb1 y.h
      have hWy : Below W.heap.size W y.v := hW.trans (hby.mono hW.size)
      have k0 := cell_stays hWy l0
      have k1 := cell_stays hWy l1
      have k2 := cell_stays hWy l2
      have k3 := cell_stays hWy l3
      clear l0 l1 l2 l3
      have ly := lt_of_cell y0
      have lz := lt_of_cell z0
      have lk := lt_of_cell k0
      have hTy := (hT.mono y.h)
      go_wp2
      obtain ⟨w2, hw2⟩ : ∃ w2 : World, w2 = y.v.alloc (.cells #[(.int .i64 2), (.int .i64 ca), (.int .i64 pe), (.int .i64 sl)] 48) := ⟨_, rfl⟩
      have hby2 : Below y.v.heap.size y.v w2 := by rw [hw2]; exact (Below.refl _ y.v).alloc (Nat.le_refl _) _
      have hb2 : Below w.heap.size w w2 := bst hby hby2
      have hz2 : w2.heap.size = y.v.heap.size + 1 := by rw [hw2]; simp
      have h7 : w2.heap[y.v.heap.size]? = some (.cells #[(.int .i64 2), (.int .i64 ca), (.int .i64 pe), (.int .i64 sl)] 48 (0, 0)) := by rw [hw2]; exact World.alloc_heap_new _ _
      have m0 : w2.cell? ⟨y.v.heap.size, 0, none⟩ = some (.int .i64 2) := by rw [cell_of_heap h7]; rfl
      have m1 : w2.cell? ⟨y.v.heap.size, 1, none⟩ = some (.int .i64 ca) := by rw [cell_of_heap h7]; rfl
      have m3 : w2.cell? ⟨y.v.heap.size, 3, none⟩ = some (.int .i64 sl) := by rw [cell_of_heap h7]; rfl
      have v0 := cell_stays hby2 y0
      have v1 := cell_stays hby2 y1
      have v2 := cell_stays hby2 y2
      have v3 := cell_stays hby2 y3
      have u0 := cell_stays hby2 z0
      have u1 := cell_stays hby2 z1
      have hT2 := hTy.mono hby2
      have hO2 := ho.below hb2
      have hp2 := OwnT.below hp hb2
      have hW2 : Below W.heap.size W w2 := hWy.trans (hby2.mono hWy.size)
      have hWs : W.heap.size ≤ w.heap.size := hW.size
      have hws : w.heap.size + 2 ≤ y.v.heap.size := by have := y.h.size; have := hz1'.out; omega
      have HMlt : Hid (∀ k, out.ownBlock = some k → k < w.heap.size) := fun k hk => (ho.lt k hk).2
      have HZ2 := Lib.hid hz2
      rw [← hw2]
      clear hw2 hz2
      clear hTy hT y0 y1 y2 y3 z0 z1 k0 k1 k2 k3 h7 hp2
      have x0 := fun y' : Aft w2.heap.size w2 => cell_stays y'.h u0
      have x1 := fun y' : Aft w2.heap.size w2 => cell_stays y'.h u1
      have x2 := fun y' : Aft w2.heap.size w2 => cell_stays y'.h m1
      have x3 := fun y' : Aft w2.heap.size w2 => cell_stays y'.h m3
      refine wp_region_aft mixed (by kernel_rfl) ?_
      repeat (go_big_quiet_step ((go_at_call 41; exact calls_aft (rlies_any (hT2.mono (Aft.h _)) hx5' sl))))
      refine wpQuiet_nil ?_
      rintro _ ⟨r, rfl⟩
      clear x0 x1 x2 x3
      go_wp2
      go_ret
      have hbz := bst hb2 r.h
      exact ⟨_, rfl, ho.below hbz, grown_of_below hbz _, fun g h => .inl h⟩
/-- What comes of the first k slots. -/
def backL (c : Cab) (x : List Int × List Bool) (ls : List Ln) (j k : Nat) : List (List Int × List Bool) := ((List.range k).filterMap (backF c x.1 j)).flatMap fun y => goOn c ls y.1 (x.2 ++ [y.2])
theorem backL_none {c : Cab} {x : List Int × List Bool} {ls : List Ln} {j k : Nat} (h : ¬ lies x.1 (k : Int) = -1) : backL c x ls j (k + 1) = backL c x ls j k := by
  unfold backL
  rw [List.range_succ, List.filterMap_append]
  simp [backF, h]
theorem backL_some {c : Cab} {x : List Int × List Bool} {ls : List Ln} {j k : Nat} (h : lies x.1 (k : Int) = -1) :
    backL c x ls j (k + 1) = backL c x ls j k ++ goOn c ls (x.1.set j k) (x.2 ++ [!decide ((k : Int) = gi c.homes j)]) := by
  unfold backL
  rw [List.range_succ, List.filterMap_append]
  simp [backF, h]
theorem backL_le {c : Cab} {x : List Int × List Bool} {ls : List Ln} {j k : Nat} : ∀ d, (backL c x ls j k).length ≤ (backL c x ls j (k + d)).length
  | 0 => Nat.le_refl _
  | d + 1 => by
    refine Nat.le_trans (backL_le d) ?_
    by_cases h : lies x.1 ((k + d : Nat) : Int) = -1
    · rw [show k + (d + 1) = k + d + 1 by omega, backL_some h, List.length_append]; omega
    · rw [show k + (d + 1) = k + d + 1 by omega, backL_none h]; omega
set_option maxRecDepth 100000 in
set_option maxHeartbeats 2000000 in
theorem rt_back {c : Cab} {ah : Option Addr} {ch : Nat} {al : Option Addr} {cl : Nat} {W : World} (hi : IsInts W ah c.homes) (li : IsLoans W al c.loans) (hok : ∀ l ∈ c.loans, c.loanOk l = true) (hs : 1 ≤ c.slots ∧ c.slots ≤ 6) (hh : c.homes.length ≤ 5) (hl : c.loans.length ≤ 12)
    (x : List Int × List Bool) (w : World) (p : Value × Value) (out : Value) (L : List (List Int × List Bool)) (hlt : x.2.length < c.loans.length) (hx : x.1.length = c.homes.length) (hW : Below W.heap.size W w) (hp : OwnT w W.heap.size x p) (ho : Outs w W.heap.size out L)
    (hL : L.length + (goOn c (c.loans.drop x.2.length) x.1 x.2).length ≤ 2000) (hmany : ¬ c.wrong < (wrongs x.2 : Int))
    (IH : ∀ (x' : List Int × List Bool) (w' : World) (p' : Value × Value) (out' : Value) (L' : List (List Int × List Bool)), x'.2.length = x.2.length + 1 → x'.1.length = c.homes.length → Below W.heap.size W w' → OwnT w' W.heap.size x' p' → Outs w' W.heap.size out' L' →
      L'.length + (goOn c (c.loans.drop x'.2.length) x'.1 x'.2).length ≤ 2000 → Calls Try.prog 80 #[c.v ah ch al cl, .agg #[p'.1, p'.2], out'] w' (TruthsPost W.heap.size w' out' (L' ++ goOn c (c.loans.drop x'.2.length) x'.1 x'.2))) (hkind : (gl c.loans x.2.length).kind = 1) :
    Calls Try.prog 80 #[c.v ah ch al cl, .agg #[p.1, p.2], out] w (TruthsPost W.heap.size w out (L ++ goOn c (c.loans.drop x.2.length) x.1 x.2)) := by
    obtain ⟨⟨kd, ca, pe, sl⟩, hll⟩ : ∃ l : Ln, gl c.loans x.2.length = l := ⟨_, rfl⟩
    have hlok := loan_ok' hok hlt
    have hdrop := drop_loan hlt
    rw [hll] at hkind hlok hdrop
    rw [hdrop, goOn_cons] at hL ⊢
    simp only at hkind
    subst hkind
    have hcard : c.card ca = true := by
      simp [Cab.loanOk, Cab.lent] at hlok
      exact hlok.1
    obtain ⟨j, hj1, hj2⟩ := card_in (c := c) (l := ⟨0, ca, pe, sl⟩) hcard
    simp only at hj1
    subst hj1
    have hjx : j < x.1.length := by omega
    have hle : ((x.2.length : Int) == (c.loans.length : Int)) = false := by simp; omega
    have hdm : decide (c.wrong < (wrongs x.2 : Int)) = false := by simpa using hmany
    have hln : x.2.length ≤ c.loans.length := by omega
    obtain ⟨p1, p2⟩ := p
    obtain ⟨pa, pc, rfl, pi⟩ := own_ints hp.1 rfl
    obtain ⟨qa, qc, rfl, qi⟩ := own_bools hp.2 rfl
    obtain ⟨W1, hW1⟩ : ∃ W1 : World, W1 = (w.alloc (.cells #[.int .i64 c.slots, .slice ah c.homes.length ch, .int .i64 c.wrong, .slice al c.loans.length cl] 25)).alloc (.cells #[.slice pa x.1.length pc, .slice qa x.2.length qc] 56) := ⟨_, rfl⟩
    have hb1 : Below w.heap.size w W1 := by rw [hW1]; exact ((Below.refl _ w).alloc (Nat.le_refl _) _).alloc (by simp) _
    have hz1 : W1.heap.size = w.heap.size + 2 := by rw [hW1]; simp
    have hA : W1.heap[w.heap.size]? = some (.cells (c.cells ah ch al cl) 25 (0, 0)) := by rw [hW1]; exact heap_alloc2_0 _ _ _
    have hB : W1.heap[w.heap.size + 1]? = some (.cells #[.slice pa x.1.length pc, .slice qa x.2.length qc] 56 (0, 0)) := by
      rw [hW1]
      have := World.alloc_heap_new (w.alloc (.cells (c.cells ah ch al cl) 25)) (.cells #[.slice pa x.1.length pc, .slice qa x.2.length qc] 56)
      rwa [World.size_alloc] at this
    have hT : IsTruth W1 x (.slice pa x.1.length pc) (.slice qa x.2.length qc) := IsTruth.mono ⟨⟨_, _, rfl, pi⟩, ⟨_, _, rfl, qi⟩⟩ hb1
    have a0 : ∀ o, W1.cell? ⟨w.heap.size, o, none⟩ = (c.cells ah ch al cl)[o]? := fun o => cell_of_heap hA
    have a1 : ∀ o, W1.cell? ⟨w.heap.size + 1, o, none⟩ = (#[.slice pa x.1.length pc, .slice qa x.2.length qc] : Array Value)[o]? := fun o => cell_of_heap hB
    have c0 : W1.cell? ⟨w.heap.size, 0, none⟩ = some (.int .i64 c.slots) := a0 0
    have c1 : W1.cell? ⟨w.heap.size, 1, none⟩ = some (.slice ah c.homes.length ch) := a0 1
    have c2 : W1.cell? ⟨w.heap.size, 2, none⟩ = some (.int .i64 c.wrong) := a0 2
    have c3 : W1.cell? ⟨w.heap.size, 3, none⟩ = some (.slice al c.loans.length cl) := a0 3
    have t0 : W1.cell? ⟨w.heap.size + 1, 0, none⟩ = some (.slice pa x.1.length pc) := a1 0
    have t1 : W1.cell? ⟨w.heap.size + 1, 1, none⟩ = some (.slice qa x.2.length qc) := a1 1
    have x0 := fun y : Aft W1.heap.size W1 => cell_stays y.h t0
    have x1 := fun y : Aft W1.heap.size W1 => cell_stays y.h t1
    have x2 := fun y : Aft W1.heap.size W1 => cell_stays y.h c2
    have hm : x.2.length ≤ 100 := by omega
    obtain ⟨lb, lo, rfl, l0, l1, l2, l3⟩ := li x.2.length hlt
    rw [hll] at l0 l1 l2 l3
    simp only at l0 l1 l2 l3
    by_cases hg : gi x.1 j = -1
    · have hstep : step c x.1 ⟨1, j, pe, sl⟩ = (List.range c.slots.toNat).filterMap (backF c x.1 j) := step_back c x.1 j pe sl hg
      rw [hstep] at hL ⊢
      have hgb : (gi x.1 j == -1) = true := by simp [hg]
      obtain ⟨ls, hls⟩ : ∃ ls, c.loans.drop (x.2.length + 1) = ls := ⟨_, rfl⟩
      obtain ⟨S, hS⟩ : ∃ S : Nat, c.slots = S := ⟨c.slots.toNat, by omega⟩
      have hLL : L.length + (backL c x ls j S).length ≤ 2000 := by rw [hls, hS] at hL; exact hL
      have HLS := Lib.hid hls
      have HS := Lib.hid hS
      have hS6 : S ≤ 6 := by omega
      have HG := Lib.hid hgb
      have HLL := Lib.hid hLL
      obtain ⟨xb, xo, rfl, hcell⟩ := hi.at hj2
      have hhj := hcell j hj2
      clear hg hstep hls hS hlok hdrop hmany hLL
      have HN := Lib.hid (And.intro hW1 (And.intro hx (And.intro hz1 hll)))
      have HX := Lib.hid hx
      have HIH := Lib.hid IH
      have HL := Lib.hid hL
      have hz1' := Lib.hid hz1
      clear hx hz1 hW1 a0 a1 hA hB hL IH hll
      go_enter Try.func80, Try.ntmps80
      go_wp2
      have hW1 := HN.out.1
      rw [← hW1]
      clear hW1
      refine wp_region_aft mixed (by kernel_rfl) ?_
      repeat (go_big_quiet_step ((go_at_call 87; exact calls_aft (rwrongs_any (hT.mono (Aft.h _)) hm))))
      refine wpQuiet_nil ?_
      rintro _ ⟨y, rfl⟩
      have y0 := cell_stays y.h c0
      have y1 := cell_stays y.h c1
      have y2 := cell_stays y.h c2
      have y3 := cell_stays y.h c3
      have z0 := cell_stays y.h t0
      have z1 := cell_stays y.h t1
      clear x0 x1 x2 c0 c1 c2 c3 t0 t1
      have hby : Below w.heap.size w y.v := bst hb1 y.h
      have hWy : Below W.heap.size W y.v := hW.trans (hby.mono hW.size)
      have k0 := cell_stays hWy l0
      have k1 := cell_stays hWy l1
      have k2 := cell_stays hWy l2
      have k3 := cell_stays hWy l3
      clear l0 l1 l2 l3
      have ly := lt_of_cell y0
      have lz := lt_of_cell z0
      have lk := lt_of_cell k0
      have hTy := (hT.mono y.h)
      obtain ⟨ab, ao, rfl, ac⟩ := pi.mono hby j hjx
      have lac := lt_of_cell ac
      go_wp2
      obtain ⟨w2, hw2⟩ : ∃ w2 : World, w2 = y.v.alloc (.cells #[(.int .i64 1), (.int .i64 j), (.int .i64 pe), (.int .i64 sl)] 48) := ⟨_, rfl⟩
      have hby2 : Below y.v.heap.size y.v w2 := by rw [hw2]; exact (Below.refl _ y.v).alloc (Nat.le_refl _) _
      have hb2 : Below w.heap.size w w2 := bst hby hby2
      have hz2 : w2.heap.size = y.v.heap.size + 1 := by rw [hw2]; simp
      have h7 : w2.heap[y.v.heap.size]? = some (.cells #[(.int .i64 1), (.int .i64 j), (.int .i64 pe), (.int .i64 sl)] 48 (0, 0)) := by rw [hw2]; exact World.alloc_heap_new _ _
      have m0 : w2.cell? ⟨y.v.heap.size, 0, none⟩ = some (.int .i64 1) := by rw [cell_of_heap h7]; rfl
      have m1 : w2.cell? ⟨y.v.heap.size, 1, none⟩ = some (.int .i64 j) := by rw [cell_of_heap h7]; rfl
      have m3 : w2.cell? ⟨y.v.heap.size, 3, none⟩ = some (.int .i64 sl) := by rw [cell_of_heap h7]; rfl
      have v0 := cell_stays hby2 y0
      have v1 := cell_stays hby2 y1
      have v2 := cell_stays hby2 y2
      have v3 := cell_stays hby2 y3
      have u0 := cell_stays hby2 z0
      have u1 := cell_stays hby2 z1
      have hT2 := hTy.mono hby2
      have hO2 := ho.below hb2
      have hp2 := OwnT.below hp hb2
      have hW2 : Below W.heap.size W w2 := hWy.trans (hby2.mono hWy.size)
      have hWs : W.heap.size ≤ w.heap.size := hW.size
      have hws : w.heap.size + 2 ≤ y.v.heap.size := by have := y.h.size; have := hz1'.out; omega
      have HMlt : Hid (∀ k, out.ownBlock = some k → k < w.heap.size) := fun k hk => (ho.lt k hk).2
      have HZ2 := Lib.hid hz2
      rw [← hw2]
      clear hw2 hz2
      have ac2 := cell_stays hby2 ac
      have hom2 := cell_stays hW2 hhj
      have lho := lt_of_cell hhj
      have lab : W.heap.size ≤ ab := by
        obtain ⟨g, cap', he, hg1, _⟩ := own_cell hp.1 (by omega)
        simp only [Value.slice.injEq, Option.some.injEq, Addr.mk.injEq, and_true, true_and] at he
        omega
      clear hTy hT y0 y1 y2 y3 z0 z1 k0 k1 k2 k3 h7
      have hrow : ∃ n xs, w2.ownsRow W.heap.size 56 2 out n xs := by
        obtain ⟨vs, h1, h2, h3⟩ := hO2
        exact ⟨_, _, h2⟩
      have n3 : ¬ out.ownBlock = some w.heap.size := fun e => by have := HMlt.out _ e; omega
      have n4 : ¬ out.ownBlock = some (w.heap.size + 1) := fun e => by have := HMlt.out _ e; omega
      have n7 : ¬ out.ownBlock = some y.v.heap.size := fun e => by have := HMlt.out _ e; omega
      have nab : ¬ out.ownBlock = some ab := fun e => by
        obtain ⟨n, xs, h⟩ := hrow
        rcases own_apart hp2.1 h (by decide) with h | h
        · simp [Value.ownBlock] at h
        · exact h (by rw [e]; rfl)
      have nxb : ¬ out.ownBlock = some xb := fun e => by have := (ho.lt _ e).1; omega
      have hx5' : x.1.length ≤ 5 := by have := HX.out; omega
      have HM := Lib.hid (And.intro v0 (And.intro v1 (And.intro v2 (And.intro v3 (And.intro u0 (And.intro u1 (And.intro m1 (And.intro ac2 (And.intro hom2 (And.intro hrow (And.intro hp2 (And.intro n3 (And.intro n4 (And.intro n7 (And.intro nab nxb)))))))))))))))
      have HO2 := Lib.hid hO2
      have HW2 := Lib.hid hW2
      have HB2 := Lib.hid hb2
      have HWS := Lib.hid (And.intro hWs hws)
      clear v0 v1 v2 v3 u0 u1 m0 m1 m3 ac2 hom2 hrow hp2 n3 n4 n7 nab nxb hT2 hO2 hW2 hb2 ac hhj hcell hi li hby2 hby hWy hb1 ho hp hWs hws hle hdm hlt hW hgb
      go_loopw [2, 8] (fun o i wr => ∃ (k : Nat) (ou : Value), ou = o ∧ (k : Int) ≤ c.slots ∧ i = .int .i64 k ∧ Hid (Outs wr W.heap.size ou (L ++ backL c x ls j k) ∧ Same (fun g => out.ownBlock = some g) w2 wr ∧ ∀ g, ou.ownBlock = some g → out.ownBlock = some g ∨ w2.heap.size ≤ g)) (fun _ i _ => c.slots.toNat - (intOf i).toNat)
      case atStart => exact ⟨0, out, rfl, by omega, rfl, by simpa [backL] using HO2.out, Same.refl _ _, fun g h => .inl h⟩
      case round =>
        obtain ⟨k, ou, rfl, hk, rfl, HR⟩ := hrel
        obtain ⟨v0, v1, v2, v3, u0, u1, m1, ac2, hom2, hrow, hp2, n3, n4, n7, nab, nxb⟩ := HM.out
        obtain ⟨hOr, hSr, hfr⟩ := HR.out
        have hgr : w2.grownBy wr out.ownBlock := ⟨hSr.os, hSr.tape, hSr.output, hSr.size, fun k hk hne => hSr.block k hk (fun e => hne e.symm)⟩
        have hpr : OwnT wr W.heap.size x (Value.slice (some ⟨ab, ao, none⟩) x.1.length pc, Value.slice qa x.2.length qc) := by
          obtain ⟨n, xs, h⟩ := hrow
          exact OwnT.kept hp2 h hgr
        have hTr := hpr.is
        have v0 := hSr.cell v0 n3
        have v1 := hSr.cell v1 n3
        have v2 := hSr.cell v2 n3
        have v3 := hSr.cell v3 n3
        have u0 := hSr.cell u0 n4
        have u1 := hSr.cell u1 n4
        have m1 := hSr.cell m1 n7
        have ac2 := hSr.cell ac2 nab
        have hom2 := hSr.cell hom2 nxb
        have hszr : w2.heap.size ≤ wr.heap.size := hSr.size
        have HWr : Hid (Below W.heap.size W wr) := HW2.out.trans (hSr.below HW2.out.size (fun q hq e => by
          obtain ⟨n, xs, h⟩ := hrow
          have := (h.lt _ e).1
          omega))
        have m3' : ¬ ou.ownBlock = some w.heap.size := fun e => by
          rcases hfr _ e with h | h
          · exact n3 h
          · have := HWS.out.2; have := HZ2.out; omega
        have m4' : ¬ ou.ownBlock = some (w.heap.size + 1) := fun e => by
          rcases hfr _ e with h | h
          · exact n4 h
          · have := HWS.out.2; have := HZ2.out; omega
        have m7' : ¬ ou.ownBlock = some y.v.heap.size := fun e => by
          rcases hfr _ e with h | h
          · exact n7 h
          · have := HZ2.out; omega
        have mxb : ¬ ou.ownBlock = some xb := fun e => by
          rcases hfr _ e with h | h
          · exact nxb h
          · have := HWS.out; have := HZ2.out; omega
        clear hrow hp2 n3 n4 n7 nab nxb hgr hpr
        by_cases hkl : (k : Int) < c.slots
        · have HKL := Lib.hid hkl
          have hgb : (gi x.1 j == -1) = true := HG.out
          have hTd := hTr.mono (Below.refl _ wr)
          by_cases hli : lies x.1 (k : Int) = -1
          · have hlb : (lies x.1 (k : Int) == -1) = true := by simp [hli]
            have HBS := Lib.hid (@backL_some c x ls j k hli)
            have hcount : (backL c x ls j (k + 1)).length ≤ (backL c x ls j S).length := by
              have := @backL_le c x ls j (k + 1) (S - (k + 1))
              have hS' := HS.out
              rw [show k + 1 + (S - (k + 1)) = S by omega] at this
              exact this
            clear hli
            by_cases he : (k : Int) = gi c.homes j
            · have hbe : ((k : Int) == gi c.homes j) = true := by simp [he]
              have hbn : ((k : Int) != gi c.homes j) = false := by simp [he]
              have HLk : Hid ((L ++ backL c x ls j k).length + (goOn c ls (x.1.set j k) (x.2 ++ [false])).length ≤ 2000) := by
                have h1 := HBS.out
                have hb : (!decide ((k : Int) = gi c.homes j)) = false := by simp [he]
                rw [hb] at h1
                rw [h1, List.length_append] at hcount
                have := HLL.out
                rw [Hid, List.length_append]
                omega
              have HB1 : Hid (backL c x ls j (k + 1) = backL c x ls j k ++ goOn c ls (x.1.set j k) (x.2 ++ [false])) := by
                have hb : (!decide ((k : Int) = gi c.homes j)) = false := by simp [he]
                have h1 := HBS.out
                rw [hb] at h1
                exact h1
              clear hcount he
              go_wp2_with fail
              refine (rlies_any hTr hx5' (k : Int)).mono ?_
              rintro e w6 ⟨rfl, hb6⟩
              have v0 := cell_stays hb6 v0
              have v1 := cell_stays hb6 v1
              have v2 := cell_stays hb6 v2
              have v3 := cell_stays hb6 v3
              have u0 := cell_stays hb6 u0
              have u1 := cell_stays hb6 u1
              have m1 := cell_stays hb6 m1
              have hom2 := cell_stays hb6 hom2
              have hT2 := hTr.mono hb6
              have hO2 := hOr.below hb6
              have hW2 : Below W.heap.size W w6 := HWr.out.trans (hb6.mono HWr.out.size)
              have n3 := m3'
              have n4 := m4'
              have n7 := m7'
              go_wp2_with fail
              have KP : Hid (∀ w', Same (fun k => ou.ownBlock = some k) w6 w' → (w'.cell? ⟨w.heap.size, 0, none⟩ = some (.int .i64 c.slots) ∧ w'.cell? ⟨w.heap.size, 1, none⟩ = some (.slice (some ⟨xb, xo, none⟩) c.homes.length ch) ∧ w'.cell? ⟨w.heap.size, 2, none⟩ = some (.int .i64 c.wrong) ∧ w'.cell? ⟨w.heap.size, 3, none⟩ = some (.slice (some ⟨lb, lo, none⟩) c.loans.length cl) ∧ w'.cell? ⟨w.heap.size + 1, 0, none⟩ = some (.slice (some ⟨ab, ao, none⟩) x.1.length pc) ∧ w'.cell? ⟨w.heap.size + 1, 1, none⟩ = some (.slice qa x.2.length qc) ∧ w'.cell? ⟨y.v.heap.size, 1, none⟩ = some (.int .i64 j) ∧ w'.cell? ⟨xb, xo + j, none⟩ = some (.int .i64 (gi c.homes j)) ∧ Same (fun k => ou.ownBlock = some k) w6 w')) :=
                fun w' hS => ⟨hS.cell v0 n3, hS.cell v1 n3, hS.cell v2 n3, hS.cell v3 n3, hS.cell u0 n4, hS.cell u1 n4, hS.cell m1 n7, hS.cell hom2 mxb, hS⟩
              obtain ⟨_, _, e1, i1⟩ := hT2.at_
              obtain ⟨_, _, e2, i2⟩ := hT2.wr
              cases e1
              cases e2
              have HI := Lib.hid (And.intro i1 i2)
              have HO2 := Lib.hid hO2
              have HW2 := Lib.hid hW2
              have hx5 : x.1.length ≤ 5 := by have := HX.out; omega
              have hxs : W.heap.size ≤ w6.heap.size := hW2.size
              clear v0 v1 v2 v3 u0 u1 i1 i2 hT2 hO2 hW2 m1 hom2
              go_region_held3 (fun w' => w'.cell? ⟨w.heap.size, 0, none⟩ = some (.int .i64 c.slots) ∧ w'.cell? ⟨w.heap.size, 1, none⟩ = some (.slice (some ⟨xb, xo, none⟩) c.homes.length ch) ∧ w'.cell? ⟨w.heap.size, 2, none⟩ = some (.int .i64 c.wrong) ∧ w'.cell? ⟨w.heap.size, 3, none⟩ = some (.slice (some ⟨lb, lo, none⟩) c.loans.length cl) ∧ w'.cell? ⟨w.heap.size + 1, 0, none⟩ = some (.slice (some ⟨ab, ao, none⟩) x.1.length pc) ∧ w'.cell? ⟨w.heap.size + 1, 1, none⟩ = some (.slice qa x.2.length qc) ∧ w'.cell? ⟨y.v.heap.size, 1, none⟩ = some (.int .i64 j) ∧ w'.cell? ⟨xb, xo + j, none⟩ = some (.int .i64 (gi c.homes j)) ∧ Same (fun k => ou.ownBlock = some k) w6 w') (first | exact KP.out _ S4 | exact KP.out _ S3 | exact KP.out _ (Same.refl _ w6).drew)
                (first
                  | (go_at_call 88; have C88 := (with_any (x := x) (ca := pc) (cb := qc) (HI.out.1.mono (Below.refl _ w6).drew) (HI.out.2.mono (Below.refl _ w6).drew) hx5 hm (j : Int) (k : Int) false (.inr ⟨by omega, by omega⟩)); (with_reducible refine C88.mono ?_); clear C88; rintro e w3 ⟨va, vb, rfl, o1, o2, hb3⟩; have S3 : Same (fun k => ou.ownBlock = some k) w6 w3 := (Same.refl _ w6).drew.trans (Same.of_below _ hb3); rw [if_neg (show ¬ (j : Int) = -1 by omega), Int.toNat_natCast] at o1)
                  | (go_at_call 80; have C80 := (HIH.out (x.1.set j (k : Int), x.2 ++ [false]) _ (va, vb) ou (L ++ backL c x ls j k) (by simp) (by have := HX.out; simp [this]) (HW2.out.trans (((Below.refl _ w6).drew.trans hb3).mono hxs)) ⟨by simpa using own_base o1 hxs, by simpa using own_base o2 hxs⟩ (HO2.out.below ((Below.refl _ w6).drew.trans hb3)) (by have := HLk.out; simp only [List.length_append, List.length_cons, List.length_nil, Nat.zero_add, HLS.out] at this ⊢; omega)); (with_reducible refine C80.mono ?_); clear C80; rintro e w4 ⟨v', rfl, hO4, hg4, hv4⟩; have S4 : Same (fun k => ou.ownBlock = some k) w6 w4 := S3.grown hg4 (fun k hk => .inl hk)))
              go_wp2_with fail
              go_roundw
              case rel =>
                refine ⟨k + 1, _, rfl, by have := HKL.out; omega, by go_num, ?_, ?_, ?_⟩
                · rw [HB1.out, ← List.append_assoc]
                  have := hO4
                  simp only [List.length_append, List.length_cons, List.length_nil, Nat.zero_add, HLS.out] at this
                  exact this
                · have hfr := HR.out.2.2
                  have A := HR.out.2.1.trans (Same.of_below (fun g => out.ownBlock = some g) hb6)
                  exact ⟨S4.os.trans A.os, S4.tape.trans A.tape, S4.output.trans A.output, Nat.le_trans A.size S4.size, fun q hq hn => (S4.block q (Nat.lt_of_lt_of_le hq A.size) (fun e => by
                    rcases hfr q e with h | h
                    · exact hn h
                    · omega)).trans (A.block q hq hn)⟩
                · intro g hg
                  rcases hv4 g hg with h | h
                  · exact HR.out.2.2 g h
                  · have := S3.size
                    have := hb6.size
                    exact .inr (by omega)
              case measure => have := HKL.out; simp [intOf]; omega
            · have hbe : ((k : Int) == gi c.homes j) = false := by simp [he]
              have hbn : ((k : Int) != gi c.homes j) = true := by simp [he]
              have HLk : Hid ((L ++ backL c x ls j k).length + (goOn c ls (x.1.set j k) (x.2 ++ [true])).length ≤ 2000) := by
                have h1 := HBS.out
                have hb : (!decide ((k : Int) = gi c.homes j)) = true := by simp [he]
                rw [hb] at h1
                rw [h1, List.length_append] at hcount
                have := HLL.out
                rw [Hid, List.length_append]
                omega
              have HB1 : Hid (backL c x ls j (k + 1) = backL c x ls j k ++ goOn c ls (x.1.set j k) (x.2 ++ [true])) := by
                have hb : (!decide ((k : Int) = gi c.homes j)) = true := by simp [he]
                have h1 := HBS.out
                rw [hb] at h1
                exact h1
              clear hcount he
              go_wp2_with fail
              refine (rlies_any hTr hx5' (k : Int)).mono ?_
              rintro e w6 ⟨rfl, hb6⟩
              have v0 := cell_stays hb6 v0
              have v1 := cell_stays hb6 v1
              have v2 := cell_stays hb6 v2
              have v3 := cell_stays hb6 v3
              have u0 := cell_stays hb6 u0
              have u1 := cell_stays hb6 u1
              have m1 := cell_stays hb6 m1
              have hom2 := cell_stays hb6 hom2
              have hT2 := hTr.mono hb6
              have hO2 := hOr.below hb6
              have hW2 : Below W.heap.size W w6 := HWr.out.trans (hb6.mono HWr.out.size)
              have n3 := m3'
              have n4 := m4'
              have n7 := m7'
              go_wp2_with fail
              have KP : Hid (∀ w', Same (fun k => ou.ownBlock = some k) w6 w' → (w'.cell? ⟨w.heap.size, 0, none⟩ = some (.int .i64 c.slots) ∧ w'.cell? ⟨w.heap.size, 1, none⟩ = some (.slice (some ⟨xb, xo, none⟩) c.homes.length ch) ∧ w'.cell? ⟨w.heap.size, 2, none⟩ = some (.int .i64 c.wrong) ∧ w'.cell? ⟨w.heap.size, 3, none⟩ = some (.slice (some ⟨lb, lo, none⟩) c.loans.length cl) ∧ w'.cell? ⟨w.heap.size + 1, 0, none⟩ = some (.slice (some ⟨ab, ao, none⟩) x.1.length pc) ∧ w'.cell? ⟨w.heap.size + 1, 1, none⟩ = some (.slice qa x.2.length qc) ∧ w'.cell? ⟨y.v.heap.size, 1, none⟩ = some (.int .i64 j) ∧ w'.cell? ⟨xb, xo + j, none⟩ = some (.int .i64 (gi c.homes j)) ∧ Same (fun k => ou.ownBlock = some k) w6 w')) :=
                fun w' hS => ⟨hS.cell v0 n3, hS.cell v1 n3, hS.cell v2 n3, hS.cell v3 n3, hS.cell u0 n4, hS.cell u1 n4, hS.cell m1 n7, hS.cell hom2 mxb, hS⟩
              obtain ⟨_, _, e1, i1⟩ := hT2.at_
              obtain ⟨_, _, e2, i2⟩ := hT2.wr
              cases e1
              cases e2
              have HI := Lib.hid (And.intro i1 i2)
              have HO2 := Lib.hid hO2
              have HW2 := Lib.hid hW2
              have hx5 : x.1.length ≤ 5 := by have := HX.out; omega
              have hxs : W.heap.size ≤ w6.heap.size := hW2.size
              clear v0 v1 v2 v3 u0 u1 i1 i2 hT2 hO2 hW2 m1 hom2
              go_region_held3 (fun w' => w'.cell? ⟨w.heap.size, 0, none⟩ = some (.int .i64 c.slots) ∧ w'.cell? ⟨w.heap.size, 1, none⟩ = some (.slice (some ⟨xb, xo, none⟩) c.homes.length ch) ∧ w'.cell? ⟨w.heap.size, 2, none⟩ = some (.int .i64 c.wrong) ∧ w'.cell? ⟨w.heap.size, 3, none⟩ = some (.slice (some ⟨lb, lo, none⟩) c.loans.length cl) ∧ w'.cell? ⟨w.heap.size + 1, 0, none⟩ = some (.slice (some ⟨ab, ao, none⟩) x.1.length pc) ∧ w'.cell? ⟨w.heap.size + 1, 1, none⟩ = some (.slice qa x.2.length qc) ∧ w'.cell? ⟨y.v.heap.size, 1, none⟩ = some (.int .i64 j) ∧ w'.cell? ⟨xb, xo + j, none⟩ = some (.int .i64 (gi c.homes j)) ∧ Same (fun k => ou.ownBlock = some k) w6 w') (first | exact KP.out _ S4 | exact KP.out _ S3 | exact KP.out _ (Same.refl _ w6).drew)
                (first
                  | (go_at_call 88; have C88 := (with_any (x := x) (ca := pc) (cb := qc) (HI.out.1.mono (Below.refl _ w6).drew) (HI.out.2.mono (Below.refl _ w6).drew) hx5 hm (j : Int) (k : Int) true (.inr ⟨by omega, by omega⟩)); (with_reducible refine C88.mono ?_); clear C88; rintro e w3 ⟨va, vb, rfl, o1, o2, hb3⟩; have S3 : Same (fun k => ou.ownBlock = some k) w6 w3 := (Same.refl _ w6).drew.trans (Same.of_below _ hb3); rw [if_neg (show ¬ (j : Int) = -1 by omega), Int.toNat_natCast] at o1)
                  | (go_at_call 80; have C80 := (HIH.out (x.1.set j (k : Int), x.2 ++ [true]) _ (va, vb) ou (L ++ backL c x ls j k) (by simp) (by have := HX.out; simp [this]) (HW2.out.trans (((Below.refl _ w6).drew.trans hb3).mono hxs)) ⟨by simpa using own_base o1 hxs, by simpa using own_base o2 hxs⟩ (HO2.out.below ((Below.refl _ w6).drew.trans hb3)) (by have := HLk.out; simp only [List.length_append, List.length_cons, List.length_nil, Nat.zero_add, HLS.out] at this ⊢; omega)); (with_reducible refine C80.mono ?_); clear C80; rintro e w4 ⟨v', rfl, hO4, hg4, hv4⟩; have S4 : Same (fun k => ou.ownBlock = some k) w6 w4 := S3.grown hg4 (fun k hk => .inl hk)))
              go_wp2_with fail
              go_roundw
              case rel =>
                refine ⟨k + 1, _, rfl, by have := HKL.out; omega, by go_num, ?_, ?_, ?_⟩
                · rw [HB1.out, ← List.append_assoc]
                  have := hO4
                  simp only [List.length_append, List.length_cons, List.length_nil, Nat.zero_add, HLS.out] at this
                  exact this
                · have hfr := HR.out.2.2
                  have A := HR.out.2.1.trans (Same.of_below (fun g => out.ownBlock = some g) hb6)
                  exact ⟨S4.os.trans A.os, S4.tape.trans A.tape, S4.output.trans A.output, Nat.le_trans A.size S4.size, fun q hq hn => (S4.block q (Nat.lt_of_lt_of_le hq A.size) (fun e => by
                    rcases hfr q e with h | h
                    · exact hn h
                    · omega)).trans (A.block q hq hn)⟩
                · intro g hg
                  rcases hv4 g hg with h | h
                  · exact HR.out.2.2 g h
                  · have := S3.size
                    have := hb6.size
                    exact .inr (by omega)
              case measure => have := HKL.out; simp [intOf]; omega
          · have hlb : (lies x.1 (k : Int) == -1) = false := by simpa using hli
            have HBN := Lib.hid (@backL_none c x ls j k hli)
            clear hli
            go_wp2_with fail
            refine (rlies_any hTr hx5' (k : Int)).mono ?_
            rintro e w6 ⟨rfl, hb6⟩
            go_wp2_with fail
            go_roundw
            case rel =>
              refine ⟨k + 1, _, rfl, by have := HKL.out; omega, by go_num, ?_, ?_, HR.out.2.2⟩
              · rw [HBN.out]; exact HR.out.1.below hb6
              · exact HR.out.2.1.trans (Same.of_below _ hb6)
            case measure => have := HKL.out; simp [intOf]; omega
        · have HKE := Lib.hid hkl
          have hkl' : c.slots ≤ (k : Int) := by omega
          clear hkl
          go_wp2_with fail
          go_ret
          have hb2 := HB2.out
          obtain ⟨hOr, hSr, hfr⟩ := HR.out
          have hsz := hb2.size
          refine ⟨_, rfl, ?_, ⟨hSr.os.trans hb2.os, hSr.tape.trans hb2.tape, hSr.output.trans hb2.output, Nat.le_trans hb2.size hSr.size, fun q hq hne => (hSr.block q (by omega) (fun e => hne e.symm)).trans (hb2.block q hq)⟩, fun g hg => ?_⟩
          · show Outs _ _ _ (L ++ backL c x (c.loans.drop (x.2.length + 1)) j c.slots.toNat)
            rw [HLS.out, show c.slots.toNat = k by omega]
            exact hOr
          · rcases hfr g hg with h | h
            · exact .inl h
            · exact .inr (by omega)
    · have hstep : step c x.1 ⟨1, j, pe, sl⟩ = [] := by simp [step, hg]
      rw [hstep] at hL ⊢
      simp only [List.flatMap_nil, List.append_nil]
      have hgb : (gi x.1 j == -1) = false := by simpa using hg
      clear hg hstep hlok hdrop hmany
      have HN := Lib.hid (And.intro hW1 (And.intro hx (And.intro hz1 hll)))
      clear hx hz1 hW1 a0 a1 hA hB hL IH hll
      go_enter Try.func80, Try.ntmps80
      go_wp2
      have hW1 := HN.out.1
      rw [← hW1]
      clear hW1
      refine wp_region_aft mixed (by kernel_rfl) ?_
      repeat (go_big_quiet_step ((go_at_call 87; exact calls_aft (rwrongs_any (hT.mono (Aft.h _)) hm))))
      refine wpQuiet_nil ?_
      rintro _ ⟨y, rfl⟩
      have y0 := cell_stays y.h c0
      have y1 := cell_stays y.h c1
      have y2 := cell_stays y.h c2
      have y3 := cell_stays y.h c3
      have z0 := cell_stays y.h t0
      have z1 := cell_stays y.h t1
      clear x0 x1 x2 c0 c1 c2 c3 t0 t1
      have hby : Below w.heap.size w y.v := bst hb1 y.h
      have hWy : Below W.heap.size W y.v := hW.trans (hby.mono hW.size)
      have k0 := cell_stays hWy l0
      have k1 := cell_stays hWy l1
      have k2 := cell_stays hWy l2
      have k3 := cell_stays hWy l3
      clear l0 l1 l2 l3
      have ly := lt_of_cell y0
      have lz := lt_of_cell z0
      have lk := lt_of_cell k0
      obtain ⟨ab, ao, rfl, ac⟩ := pi.mono hby j hjx
      have lac := lt_of_cell ac
      go_wp2
      go_loop [2, 8] (fun o i => out = o ∧ i = .int .i64 0) (fun _ _ => 0)
      case atStart => exact ⟨rfl, rfl⟩
      case round =>
        obtain ⟨rfl, rfl⟩ := hrel
        go_wp2
        go_ret
        have hbz := hby.alloc hby.size (.cells #[.int .i64 1, .int .i64 j, .int .i64 pe, .int .i64 sl] 48)
        exact ⟨_, rfl, ho.below hbz, grown_of_below hbz _, fun g h => .inl h⟩
end Go.Proofs.Ytlhobddaojdnoaa
