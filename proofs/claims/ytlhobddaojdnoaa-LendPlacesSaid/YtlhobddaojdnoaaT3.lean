/- The reference's truths: all of them, in its order. -/
import Derived.Test.YtlhobddaojdnoaaT2
namespace Go.Proofs.Ytlhobddaojdnoaa
open Go.RowKit

/-- A truth of the call's own. -/
def OwnT (w : World) (B : Nat) (x : List Int × List Bool) (p : Value × Value) : Prop :=
  w.ownsRow B 3 1 p.1 x.1.length (x.1.map (Value.int .i64)) ∧ w.ownsRow B 4 1 p.2 x.2.length (x.2.map Value.bool)
theorem OwnT.kept {w w' : World} {B : Nat} {x : List Int × List Bool} {p : Value × Value} (h : OwnT w B x p) {B' n s : Nat} {v : Value} {xs : List Value} (ho : w.ownsRow B' 56 s v n xs) (hg : w.grownBy w' v.ownBlock) : OwnT w' B x p :=
  ⟨h.1.kept hg (own_apart h.1 ho (by decide)), h.2.kept hg (own_apart h.2 ho (by decide))⟩
theorem OwnT.below {w w' : World} {B : Nat} {x : List Int × List Bool} {p : Value × Value} (h : OwnT w B x p) (hb : Below w.heap.size w w') : OwnT w' B x p := ⟨own_below h.1 hb, own_below h.2 hb⟩
theorem own_ints {w : World} {B n : Nat} {v : Value} {l : List Int} (h : w.ownsRow B 3 1 v n (l.map (Value.int .i64))) (hn : n = l.length) : ∃ a cap, v = .slice a l.length cap ∧ IsInts w a l := by
  subst hn
  obtain ⟨a, cap, rfl, _⟩ := own_slice h
  refine ⟨a, cap, rfl, fun i hi => ?_⟩
  obtain ⟨g, cap', he, _, _, _, _, hc⟩ := own_cell h (by omega)
  simp only [Value.slice.injEq, true_and] at he
  obtain ⟨rfl, rfl⟩ := he
  refine ⟨g, 0, rfl, ?_⟩
  rw [Nat.zero_add]
  exact hc i _ (by simp [gi, hi])
theorem own_bools {w : World} {B n : Nat} {v : Value} {l : List Bool} (h : w.ownsRow B 4 1 v n (l.map Value.bool)) (hn : n = l.length) : ∃ a cap, v = .slice a l.length cap ∧ IsBools w a l := by
  subst hn
  obtain ⟨a, cap, rfl, _⟩ := own_slice h
  refine ⟨a, cap, rfl, fun i hi => ?_⟩
  obtain ⟨g, cap', he, _, _, _, _, hc⟩ := own_cell h (by omega)
  simp only [Value.slice.injEq, true_and] at he
  obtain ⟨rfl, rfl⟩ := he
  refine ⟨g, 0, rfl, ?_⟩
  rw [Nat.zero_add]
  exact hc i _ (by simp [gb, hi])
theorem OwnT.is {w : World} {B : Nat} {x : List Int × List Bool} {p : Value × Value} (h : OwnT w B x p) : IsTruth w x p.1 p.2 := ⟨own_ints h.1 rfl, own_bools h.2 rfl⟩

/-- A slice of the call's own that holds truths of the call's own. -/
def Outs (w : World) (B : Nat) (v : Value) (L : List (List Int × List Bool)) : Prop :=
  ∃ vs : List (Value × Value), vs.length = L.length ∧ w.ownsRow B 56 2 v L.length (vs.flatMap fun p => [p.1, p.2]) ∧ ∀ (i : Nat) (x : List Int × List Bool) (p : Value × Value), L[i]? = some x → vs[i]? = some p → OwnT w B x p
theorem Outs.nil (w : World) (B : Nat) : Outs w B (.slice none 0 0) [] := ⟨([] : List (Value × Value)), rfl, World.ownsRow_nil w B 56 2, fun i x p hx hp => by simp at hp⟩
theorem Outs.below {w w' : World} {B : Nat} {v : Value} {L : List (List Int × List Bool)} (h : Outs w B v L) (hb : Below w.heap.size w w') : Outs w' B v L := by
  obtain ⟨vs, h1, h2, h3⟩ := h
  exact ⟨vs, h1, own_below h2 hb, fun i x p hx hp => (h3 i x p hx hp).below hb⟩
theorem Outs.lt {w : World} {B : Nat} {v : Value} {L : List (List Int × List Bool)} (h : Outs w B v L) : ∀ k, v.ownBlock = some k → B ≤ k ∧ k < w.heap.size := by
  obtain ⟨vs, h1, h2, h3⟩ := h
  exact h2.lt
theorem Outs.slice {w : World} {B : Nat} {v : Value} {L : List (List Int × List Bool)} (h : Outs w B v L) : ∃ a cap, v = .slice a L.length cap ∧ L.length ≤ cap ∧ cap ≤ maxLen := by
  obtain ⟨vs, h1, h2, h3⟩ := h
  exact own_slice h2
/-- One truth more. -/
theorem Outs.push {w : World} {B : Nat} {v : Value} {L : List (List Int × List Bool)} (h : Outs w B v L) {x : List Int × List Bool} {p : Value × Value} (hp : OwnT w B x p) (hL : L.length ≤ 4000) (hB : B ≤ w.heap.size) (ty : TypeId) :
    ∃ v' w', (Builtin.append_ #[51, 51] ty #[v, .slice (some ⟨w.heap.size, 0, none⟩) 1 1]).run Try.prog (w.alloc (.cells #[p.1, p.2] 56)) = .ok v' w' ∧ Outs w' B v' (L ++ [x]) ∧ (w.alloc (.cells #[p.1, p.2] 56)).grownBy w' v.ownBlock ∧
      (v'.ownBlock = v.ownBlock ∨ v'.ownBlock = some (w.heap.size + 1)) := by
  obtain ⟨vs, h1, h2, h3⟩ := h
  obtain ⟨i0, hi0, hz0, hz1, hz2⟩ := info_parts infoT
  have hA := h2.alloc (.cells #[p.1, p.2] 56)
  obtain ⟨a1, c1, e1, _⟩ := own_slice hp.1
  obtain ⟨a2, c2, e2, _⟩ := own_slice hp.2
  obtain ⟨v', w', hr, hn, hg, hv⟩ := append_rows_at (P := Try.prog) B 51 ty 56 i0 _ 2 48 Try.underlying51 hi0 hz0 hz1 hz2 rfl (by decide) _ _ _ hA (some ⟨w.heap.size, 0, none⟩) 1 1 [p.1, p.2]
    rfl (fun _ => ⟨_, rfl, fun j u hj => by
      have hh := World.alloc_heap_new w (.cells #[p.1, p.2] 56)
      have e : ((⟨w.heap.size, 0, none⟩ : Addr).add j) = ⟨w.heap.size, j, none⟩ := by unfold Addr.add; split <;> simp_all
      rw [e, cell_of_heap hh]
      simpa using hj⟩) (fun u hu => by
      simp only [List.mem_cons, List.not_mem_nil, or_false] at hu
      rcases hu with rfl | rfl
      · rw [e1]; rfl
      · rw [e2]; rfl) (by simp [maxLen]; omega) (by omega) (by simp; omega)
  refine ⟨v', w', hr, ⟨vs ++ [p], by simp [h1], ?_, fun i y q hy hq => ?_⟩, hg, by simpa using hv⟩
  · simpa using hn
  · have keep : ∀ {y q}, OwnT w B y q → OwnT w' B y q := fun h => (h.below ((Below.refl _ w).alloc (Nat.le_refl _) _)).kept hA hg
    by_cases hi : i < L.length
    · rw [List.getElem?_append_left hi] at hy
      rw [List.getElem?_append_left (by omega)] at hq
      exact keep (h3 i y q hy hq)
    · have hlt := (List.getElem?_eq_some_iff.1 hy).1
      simp at hlt
      obtain rfl : i = L.length := by omega
      simp at hy
      rw [← h1] at hq
      simp at hq
      subst hy hq
      exact keep hp

/-- What 'truths' comes to. -/
def TruthsPost (B : Nat) (w : World) (out : Value) (L : List (List Int × List Bool)) (e : Ending) (w' : World) : Prop :=
  ∃ v', e = .returned v' ∧ Outs w' B v' L ∧ w.grownBy w' out.ownBlock ∧ ∀ g, v'.ownBlock = some g → out.ownBlock = some g ∨ w.heap.size ≤ g
theorem loan_ok' {c : Cab} (hv : ∀ l ∈ c.loans, c.loanOk l = true) {i : Nat} (hi : i < c.loans.length) : c.loanOk (gl c.loans i) = true := by
  have : gl c.loans i = c.loans[i] := by simp [gl, hi]
  rw [this]
  exact hv _ (by simp)

/-- The call's own frame. -/
theorem grown_of_below {w w' : World} (h : Below w.heap.size w w') (r : Option Nat) : w.grownBy w' r := ⟨h.os, h.tape, h.output, h.size, fun k hk _ => h.block k hk⟩
set_option maxRecDepth 100000 in
set_option maxHeartbeats 2000000 in
theorem truths_done {c : Cab} {ah : Option Addr} {ch : Nat} {al : Option Addr} {cl : Nat} {B : Nat} (hl : c.loans.length ≤ 12)
    (x : List Int × List Bool) (w : World) (p : Value × Value) (out : Value) (L : List (List Int × List Bool)) (hn : x.2.length = c.loans.length) (hp : OwnT w B x p) (ho : Outs w B out L) (hB : B ≤ w.heap.size)
    (hL : L.length ≤ 2000) :
    Calls Try.prog 80 #[c.v ah ch al cl, .agg #[p.1, p.2], out] w (TruthsPost B w out (L ++ goOn c (c.loans.drop x.2.length) x.1 x.2)) := by
    have IH : True := trivial
    have hx : True := trivial
    obtain ⟨p1, p2⟩ := p
    obtain ⟨pa, pc, rfl, pi⟩ := own_ints hp.1 rfl
    obtain ⟨qa, qc, rfl, qi⟩ := own_bools hp.2 rfl
    obtain ⟨W1, hW1⟩ : ∃ W1 : World, W1 = (w.alloc (.cells #[.int .i64 c.slots, .slice ah c.homes.length ch, .int .i64 c.wrong, .slice al c.loans.length cl] 25)).alloc (.cells #[.slice pa x.1.length pc, .slice qa x.2.length qc] 56) := ⟨_, rfl⟩
    have hb1 : Below w.heap.size w W1 := by rw [hW1]; exact ((Below.refl _ w).alloc (Nat.le_refl _) _).alloc (by simp) _
    have hz1 : W1.heap.size = w.heap.size + 2 := by rw [hW1]; simp
    have hA : W1.heap[w.heap.size]? = some (.cells (c.cells ah ch al cl) 25 (0, 0)) := by rw [hW1]; exact heap_alloc2_0 _ _ _
    have hB : W1.heap[w.heap.size + 1]? = some (.cells #[.slice pa x.1.length pc, .slice qa x.2.length qc] 56 (0, 0)) := by
      rw [hW1]
      have := World.alloc_heap_new (w.alloc (.cells (c.cells ah ch al cl) 25)) (.cells #[.slice pa x.1.length pc, .slice qa x.2.length qc] 56)
      rwa [World.size_alloc] at this
    have hT : IsTruth W1 x (.slice pa x.1.length pc) (.slice qa x.2.length qc) := IsTruth.mono ⟨⟨_, _, rfl, pi⟩, ⟨_, _, rfl, qi⟩⟩ hb1
    have a0 : ∀ o, W1.cell? ⟨w.heap.size, o, none⟩ = (c.cells ah ch al cl)[o]? := fun o => cell_of_heap hA
    have a1 : ∀ o, W1.cell? ⟨w.heap.size + 1, o, none⟩ = (#[.slice pa x.1.length pc, .slice qa x.2.length qc] : Array Value)[o]? := fun o => cell_of_heap hB
    have c0 : W1.cell? ⟨w.heap.size, 0, none⟩ = some (.int .i64 c.slots) := a0 0
    have c1 : W1.cell? ⟨w.heap.size, 1, none⟩ = some (.slice ah c.homes.length ch) := a0 1
    have c2 : W1.cell? ⟨w.heap.size, 2, none⟩ = some (.int .i64 c.wrong) := a0 2
    have c3 : W1.cell? ⟨w.heap.size, 3, none⟩ = some (.slice al c.loans.length cl) := a0 3
    have t0 : W1.cell? ⟨w.heap.size + 1, 0, none⟩ = some (.slice pa x.1.length pc) := a1 0
    have t1 : W1.cell? ⟨w.heap.size + 1, 1, none⟩ = some (.slice qa x.2.length qc) := a1 1
    have x0 := fun y : Aft W1.heap.size W1 => cell_stays y.h t0
    have x1 := fun y : Aft W1.heap.size W1 => cell_stays y.h t1
    have x2 := fun y : Aft W1.heap.size W1 => cell_stays y.h c2
    have hm : x.2.length ≤ 100 := by omega
    by_cases hmany : c.wrong < (wrongs x.2 : Int)
    · rw [goOn_many hmany]
      rw [List.append_nil]
      have hdm : decide (c.wrong < (wrongs x.2 : Int)) = true := by simpa using hmany
      have HN := Lib.hid (And.intro hW1 (And.intro hn (And.intro hx hz1)))
      clear hn hx hz1 hW1 a0 a1 hA hB hL hmany IH
      go_enter Try.func80, Try.ntmps80
      go_wp2
      have hW1 := HN.out.1
      rw [← hW1]
      clear hW1
      refine wp_region_aft mixed (by kernel_rfl) ?_
      repeat (go_big_quiet_step ((go_at_call 87; exact calls_aft (rwrongs_any (hT.mono (Aft.h _)) hm))))
      refine wpQuiet_nil ?_
      rintro _ ⟨y, rfl⟩
      have y0 := cell_stays y.h c0
      have y1 := cell_stays y.h c1
      have y2 := cell_stays y.h c2
      have y3 := cell_stays y.h c3
      have z0 := cell_stays y.h t0
      have z1 := cell_stays y.h t1
      clear x0 x1 x2 c0 c1 c2 c3 t0 t1
      go_wp2
      go_ret
      have hby : Below w.heap.size w y.v := bst hb1 y.h
      exact ⟨_, rfl, ho.below hby, ⟨hby.os, hby.tape, hby.output, hby.size, fun k hk _ => hby.block k hk⟩, fun g h => .inl h⟩
    · have hd : c.loans.drop x.2.length = [] := by rw [hn]; simp
      rw [hd, goOn_nil (by omega)]
      clear hd
      have hdm : decide (c.wrong < (wrongs x.2 : Int)) = false := by simpa using hmany
      have hle : ((x.2.length : Int) == (c.loans.length : Int)) = true := by simp [hn]
      have HN := Lib.hid (And.intro hW1 (And.intro hn (And.intro hx hz1)))
      have hb1' : Below w.heap.size w W1 := hb1
      clear hn hx hz1 hW1 a0 a1 hA hB hmany IH
      go_enter Try.func80, Try.ntmps80
      go_wp2
      have hW1 := HN.out.1
      rw [← hW1]
      clear hW1
      refine wp_region_aft mixed (by kernel_rfl) ?_
      repeat (go_big_quiet_step ((go_at_call 87; exact calls_aft (rwrongs_any (hT.mono (Aft.h _)) hm))))
      refine wpQuiet_nil ?_
      rintro _ ⟨y, rfl⟩
      have y0 := cell_stays y.h c0
      have y1 := cell_stays y.h c1
      have y2 := cell_stays y.h c2
      have y3 := cell_stays y.h c3
      have z0 := cell_stays y.h t0
      have z1 := cell_stays y.h t1
      clear x0 x1 x2 c0 c1 c2 c3 t0 t1
      have hby : Below w.heap.size w y.v := bst hb1 y.h
      have hBy : B ≤ y.v.heap.size := Nat.le_trans ‹B ≤ w.heap.size› hby.size
      obtain ⟨v', w', hr, hO, hg, hv⟩ := (ho.below hby).push (OwnT.below hp hby) (by omega) hBy 51
      have HR := Lib.hid hr
      have HO := Lib.hid (And.intro hO (And.intro hg hv))
      clear hr hO hg hv
      go_wp2_with (at_builtin; refine wpList_append_run rfl (.tmp 22) (.tmp 24) 51 rfl _ _ _ _ rfl rfl HR.out ?_)
      go_ret
      obtain ⟨hO, hg, hv⟩ := HO.out
      refine ⟨_, rfl, hO, ⟨?_, ?_, ?_, ?_, fun k hk hne => ?_⟩, fun g hg' => ?_⟩
      · exact hg.os.trans hby.os
      · exact hg.tape.trans hby.tape
      · exact hg.output.trans hby.output
      · have := hg.size; simp at this; have := hby.size; omega
      · have := hby.size
        exact ((hg.block k (by simp; omega) hne).trans (Below.heap_alloc _ _ _ (by omega))).trans (hby.block k hk)
      · have hg' : v'.ownBlock = some g := hg'
        rcases hv with hv | hv
        · exact .inl (hv ▸ hg')
        · rw [hv] at hg'
          simp only [Option.some.injEq] at hg'
          have := hby.size
          exact .inr (by omega)
end Go.Proofs.Ytlhobddaojdnoaa
