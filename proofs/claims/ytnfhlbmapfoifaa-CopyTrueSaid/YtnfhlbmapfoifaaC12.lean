/- Compare. Lists that are compared; the document's piles. Lists gathered by reference. Orders that are left, by bits and as lists: plain laws. Orders, plain laws: which lists are orders; two orders differ in some pair; how many comparisons are needed. The reference's small functions. The reference's check; the laws' great. The reference's small loops over ways. The reference's few: plain laws; the lists with the fewest originals. The document's piles. The document's piles; what it fixes of them. -/
import Derived.Test.YtnfhlbmapfoifaaC11
namespace Go.Proofs.Ytnfhlbmapfoifaa
open Go.RowKit
set_option linter.unusedVariables false
def cmpStep (os : List (List Int)) (r : Nat × Nat × Nat) (x : Nat × Nat) : Nat × Nat × Nat :=
  if mxN (manyS (befS os (allS os.length) x.1 x.2)) (manyS (aftS os (allS os.length) x.1 x.2)) < r.2.2 then (x.1, x.2, mxN (manyS (befS os (allS os.length) x.1 x.2)) (manyS (aftS os (allS os.length) x.1 x.2))) else r
def cmpN (os : List (List Int)) (n i : Nat) : Nat × Nat × Nat := ((pairsL n).take i).foldl (cmpStep os) (0, 0, os.length + 1)
theorem cmpN_succ {os : List (List Int)} {n i : Nat} {x : Nat × Nat} (h : (pairsL n)[i]? = some x) : cmpN os n (i + 1) = cmpStep os (cmpN os n i) x := by
  unfold cmpN
  rw [List.take_succ_eq_append_getElem (List.getElem?_eq_some_iff.1 h).1, (List.getElem?_eq_some_iff.1 h).2, List.foldl_append]
  rfl
theorem many_le (S : Nat) : manyS S ≤ 128 := by
  unfold manyS
  refine Nat.le_trans List.countP_le_length ?_
  simp
theorem cmpN_small (os : List (List Int)) (n i : Nat) (h : os.length ≤ 128) (hn : n ≤ 16) : (cmpN os n i).1 ≤ 16 ∧ (cmpN os n i).2.1 ≤ 16 ∧ (cmpN os n i).2.2 ≤ 129 := by
  have key : ∀ (l : List (Nat × Nat)) (r : Nat × Nat × Nat), (∀ x ∈ l, x.1 ≤ 16 ∧ x.2 ≤ 16) → (r.1 ≤ 16 ∧ r.2.1 ≤ 16 ∧ r.2.2 ≤ 129) → (l.foldl (cmpStep os) r).1 ≤ 16 ∧ (l.foldl (cmpStep os) r).2.1 ≤ 16 ∧ (l.foldl (cmpStep os) r).2.2 ≤ 129 := by
    intro l
    induction l with
    | nil => exact fun r _ h => h
    | cons x l ih =>
      intro r hl hr
      refine ih _ (fun y hy => hl y (by simp [hy])) ?_
      have hx := hl x (by simp)
      unfold cmpStep
      split
      · have h1 := many_le (befS os (allS os.length) x.1 x.2)
        have h2 := many_le (aftS os (allS os.length) x.1 x.2)
        refine ⟨hx.1, hx.2, ?_⟩
        show mxN _ _ ≤ 129
        unfold mxN
        omega
      · exact hr
  refine key _ _ (fun x hx => ?_) ⟨by simp, by simp, by show os.length + 1 ≤ 129; omega⟩
  have := pairs_mem (List.mem_of_mem_take hx)
  omega
theorem many_all {n : Nat} (h : n ≤ 128) : manyS (allS n) = n := by
  unfold manyS
  have e : (fun k => (allS n).testBit k) = fun k => decide (k < n) := by
    funext k
    rw [allS_eq, cmpS_bit]
    simp
  rw [e]
  have key : ∀ m, (List.range m).countP (fun k => decide (k < n)) = min m n := by
    intro m
    induction m with
    | zero => simp
    | succ m ih =>
      rw [List.range_succ, List.countP_append, ih]
      by_cases hm : m < n
      · simp [hm]; omega
      · simp [hm]; omega
  rw [key]
  omega
/-- What 'Compare' returns. -/
def compE (p : Prs) : Int × Int × Int × Int :=
  if ordersE p = 0 then (if (ordersL p).length ≤ 1 then (0, 0, 0, 4) else
    (((cmpN (ordersL p) p.cards.length (pairsL p.cards.length).length).1 : Int), ((cmpN (ordersL p) p.cards.length (pairsL p.cards.length).length).2.1 : Int), ((cmpN (ordersL p) p.cards.length (pairsL p.cards.length).length).2.2 : Int), 0))
  else (0, 0, 0, ordersE p)
theorem res_cccc {fn : Func} {p q r u : Tmp} (h : fn.results = #[.cell p 3, .cell q 3, .cell r 3, .cell u 29]) (tmps : Array Value) {w : World} {a b c d : Nat} {x y z e : Value} (hp : tmps.getD p undef = .pointer (some ⟨a, 0, none⟩)) (hq : tmps.getD q undef = .pointer (some ⟨b, 0, none⟩)) (hr : tmps.getD r undef = .pointer (some ⟨c, 0, none⟩)) (hu : tmps.getD u undef = .pointer (some ⟨d, 0, none⟩))
    (hx : w.cell? ⟨a, 0, none⟩ = some x) (hy : w.cell? ⟨b, 0, none⟩ = some y) (hz : w.cell? ⟨c, 0, none⟩ = some z) (he : w.cell? ⟨d, 0, none⟩ = some e) :
    (results fn tmps).run Try.prog w = .ok (.tuple #[x, y, z, e]) w := by
  have hp' : tmps[p]?.getD undef = .pointer (some ⟨a, 0, none⟩) := by simpa using hp
  have hq' : tmps[q]?.getD undef = .pointer (some ⟨b, 0, none⟩) := by simpa using hq
  have hr' : tmps[r]?.getD undef = .pointer (some ⟨c, 0, none⟩) := by simpa using hr
  have hu' : tmps[u]?.getD undef = .pointer (some ⟨d, 0, none⟩) := by simpa using hu
  simp [results, h, hp', hq', hr', hu', hx, hy, hz, he, go_sem]
/-- What holds while all pairs are compared. -/
structure CmpI (W5 : World) (B : Nat) (r : Nat × Nat × Nat) (A : World) : Prop where
  same : Same (fun k => k = B + 1 ∨ k = B + 2 ∨ k = B + 3) W5 A
  c1 : A.heap[B + 1]? = some (.cells #[.int .i64 (r.1 : Int)] 3 (0, 0))
  c2 : A.heap[B + 2]? = some (.cells #[.int .i64 (r.2.1 : Int)] 3 (0, 0))
  c3 : A.heap[B + 3]? = some (.cells #[.int .i64 (r.2.2 : Int)] 3 (0, 0))
structure CmpT (W : World) (B : Nat) (r : Nat × Nat × Nat) (A : World) : Prop where
  same : Same (fun k => k = B + 1 ∨ k = B + 2 ∨ k = B + 3 ∨ k = B + 4) W A
  c1 : A.heap[B + 1]? = some (.cells #[.int .i64 (r.1 : Int)] 3 (0, 0))
  c2 : A.heap[B + 2]? = some (.cells #[.int .i64 (r.2.1 : Int)] 3 (0, 0))
  c3 : A.heap[B + 3]? = some (.cells #[.int .i64 (r.2.2 : Int)] 3 (0, 0))
  c4 : A.heap[B + 4]? = some (.cells #[.int .i64 0] 29 (0, 0))
theorem set_self {A : World} {b : Nat} {x : Value} {t : TypeId} (h : A.heap[b]? = some (.cells #[x] t (0, 0))) : (A.setCell ⟨b, 0, none⟩ x).heap[b]? = some (.cells #[x] t (0, 0)) := by
  simpa using heap_setCell_at (k := 0) h x
theorem CmpT.s1 {W : World} {B : Nat} {r : Nat × Nat × Nat} {A : World} (h : CmpT W B r A) : CmpT W B r (A.setCell ⟨B + 1, 0, none⟩ (.int .i64 (r.1 : Int))) :=
  ⟨h.same.setCell (.inl (.inl rfl)) _, set_self h.c1, (Below.heap_setCell _ _ _ _ (by show B + 2 ≠ B + 1; omega)).trans h.c2, (Below.heap_setCell _ _ _ _ (by show B + 3 ≠ B + 1; omega)).trans h.c3, (Below.heap_setCell _ _ _ _ (by show B + 4 ≠ B + 1; omega)).trans h.c4⟩
theorem CmpT.s2 {W : World} {B : Nat} {r : Nat × Nat × Nat} {A : World} (h : CmpT W B r A) : CmpT W B r (A.setCell ⟨B + 2, 0, none⟩ (.int .i64 (r.2.1 : Int))) :=
  ⟨h.same.setCell (.inl (.inr (.inl rfl))) _, (Below.heap_setCell _ _ _ _ (by show B + 1 ≠ B + 2; omega)).trans h.c1, set_self h.c2, (Below.heap_setCell _ _ _ _ (by show B + 3 ≠ B + 2; omega)).trans h.c3, (Below.heap_setCell _ _ _ _ (by show B + 4 ≠ B + 2; omega)).trans h.c4⟩
theorem CmpT.s3 {W : World} {B : Nat} {r : Nat × Nat × Nat} {A : World} (h : CmpT W B r A) : CmpT W B r (A.setCell ⟨B + 3, 0, none⟩ (.int .i64 (r.2.2 : Int))) :=
  ⟨h.same.setCell (.inl (.inr (.inr (.inl rfl)))) _, (Below.heap_setCell _ _ _ _ (by show B + 1 ≠ B + 3; omega)).trans h.c1, (Below.heap_setCell _ _ _ _ (by show B + 2 ≠ B + 3; omega)).trans h.c2, set_self h.c3, (Below.heap_setCell _ _ _ _ (by show B + 4 ≠ B + 3; omega)).trans h.c4⟩
theorem CmpT.s4 {W : World} {B : Nat} {r : Nat × Nat × Nat} {A : World} (h : CmpT W B r A) : CmpT W B r (A.setCell ⟨B + 4, 0, none⟩ (.int .i64 0)) :=
  ⟨h.same.setCell (.inl (.inr (.inr (.inr rfl)))) _, (Below.heap_setCell _ _ _ _ (by show B + 1 ≠ B + 4; omega)).trans h.c1, (Below.heap_setCell _ _ _ _ (by show B + 2 ≠ B + 4; omega)).trans h.c2, (Below.heap_setCell _ _ _ _ (by show B + 3 ≠ B + 4; omega)).trans h.c3, set_self h.c4⟩
theorem CmpI.stable {W5 : World} {B : Nat} {r : Nat × Nat × Nat} {lb : Nat} {X Y : World} {C : Nat → Prop} (h : CmpI W5 B r X) (hs : Same (fun k => ¬ C k ∨ k = lb) X Y) (hl : W5.heap.size ≤ lb) (hB : B + 3 < W5.heap.size) (hC : ∀ k, k < W5.heap.size → C k) : CmpI W5 B r Y := by
  have hk : ∀ k, k < W5.heap.size → Y.heap[k]? = X.heap[k]? := fun k hk => hs.block k (by have := h.same.size; omega) (fun e => by
    rcases e with e | e
    · exact e (hC k hk)
    · omega)
  exact ⟨same_later h.same hs (fun k e => by
    by_cases hk' : k < W5.heap.size
    · rcases e with e | e
      · exact (e (hC k hk')).elim
      · omega
    · exact .inr (by omega)), (hk _ (by omega)).trans h.c1, (hk _ (by omega)).trans h.c2, (hk _ (by omega)).trans h.c3⟩
theorem CmpI.below {W5 : World} {B : Nat} {r : Nat × Nat × Nat} {X Y : World} (h : CmpI W5 B r X) (hb : Below X.heap.size X Y) : CmpI W5 B r Y :=
  ⟨h.same.trans (Same.of_below _ hb), (hb.block _ (heap_lt h.c1)).trans h.c1, (hb.block _ (heap_lt h.c2)).trans h.c2, (hb.block _ (heap_lt h.c3)).trans h.c3⟩
theorem cmp_end {W5 V2 V : World} {B : Nat} {r' : Nat × Nat × Nat} {C K : Nat → Prop} (hB : Same (fun k => k = B + 1 ∨ k = B + 2 ∨ k = B + 3) V2 V) (hC : ∀ k, k < W5.heap.size + 2 → C k) (hB3 : B + 3 < W5.heap.size) (hlt : W5.heap.size + 1 < V2.heap.size) (h' : CmpI W5 B r' V) :
    Same (mayC (fun q => q = B + 1 ∨ q = B + 2 ∨ q = B + 3 ∨ q = W5.heap.size + 1) (W5.heap.size + 2) C) V2 V ∧ V.heap[W5.heap.size + 1]? = V2.heap[W5.heap.size + 1]? ∧
      ∃ C' : Nat → Prop, (∀ k, k < W5.heap.size + 2 → C' k) ∧ (∀ k, C' k → k < V.heap.size) ∧ (∀ k, C' k → C k ∨ K k ∨ V2.heap.size ≤ k) ∧ (CmpI W5 B r' V ∧ ∀ k, k < W5.heap.size + 2 → C' k) := by
  refine ⟨hB.mono (fun k _ e => ?_), hB.block _ hlt (by omega), fun k => C k ∧ k < V2.heap.size, fun k hk => ⟨hC k hk, by omega⟩, fun k hk => by have := hB.size; omega, fun k hk => .inl hk.1, h', fun k hk => ⟨hC k hk, by omega⟩⟩
  exact ⟨hC k (by omega), fun _ => by omega⟩
theorem Srt.keptR {w w' : World} {sb mb n B : Nat} {v : Value} {os : List (List Int)} (h : Srt w sb mb n v os) (hr : RowsAt w B v os) (hb : ∀ k, B ≤ k → k < w.heap.size → w'.heap[k]? = w.heap[k]?) (hs : B ≤ sb) : Srt w' sb mb n v os :=
  ⟨(hb sb hs (heap_lt h.s)).trans h.s, (hr.blocks' hb).base (Nat.zero_le _)⟩
attribute [local go_sem] Oper.semAt_some
set_option maxRecDepth 100000 in
set_option maxHeartbeats 8000000 in
theorem compare19 {p : Prs} {a : Option Addr} {cap : Nat} {w : World} (ha : IsPrts w a p.cards) (hn : p.cards.length ≤ 16) :
    Calls Try.prog 19 #[p.v a cap] w fun e w' => e = .returned (.tuple #[.int .i64 (compE p).1, .int .i64 (compE p).2.1, .int .i64 (compE p).2.2.1, .int .i64 (compE p).2.2.2]) ∧ Below w.heap.size w w' := by
  have hmf : ∀ (fn : Fn) (first cap : Array Value) (w : World), (Instr.makeFunc fn first cap).run Try.prog w = .ok (.func fn first cap) w := fun _ _ _ _ => rfl
  have HC := Lib.hid cf65
  refine calls_of_wp_x Try.func19 rfl ?_
  simp only [Try.ntmps19, List.size_toArray, List.length_cons, List.length_nil, Nat.reduceAdd, Nat.reduceSub, Array.replicate_succ, Array.replicate_zero, List.push_toArray, List.append_toArray, List.nil_append, List.cons_append]
  go_wp2_with fail
  obtain ⟨q0, q1, q2, q3, q4, hz, hb⟩ := heap5 w (.cells (p.cells a cap) 26) (.cells #[.int .i64 0] 3) (.cells #[.int .i64 0] 3) (.cells #[.int .i64 0] 3) (.cells #[.int .i64 0] 29)
  revert q0 q1 q2 q3 q4 hz hb
  generalize (((((w.alloc (.cells (p.cells a cap) 26)).alloc (.cells #[.int .i64 0] 3)).alloc (.cells #[.int .i64 0] 3)).alloc (.cells #[.int .i64 0] 3)).alloc (.cells #[.int .i64 0] 29)) = W1
  intro q0 q1 q2 q3 q4 hz hb
  have HFAIL : ∀ (er : Int) (tm : Array Value) (w2 : World), Below W1.heap.size W1 w2 → compE p = (0, 0, 0, er) → tm.getD 2 undef = .pointer (some ⟨w.heap.size + 1, 0, none⟩) → tm.getD 3 undef = .pointer (some ⟨w.heap.size + 2, 0, none⟩) → tm.getD 4 undef = .pointer (some ⟨w.heap.size + 3, 0, none⟩) → tm.getD 5 undef = .pointer (some ⟨w.heap.size + 4, 0, none⟩) →
      Leaves Try.prog Try.f19 tm (fun e w' => e = .returned (.tuple #[.int .i64 (compE p).1, .int .i64 (compE p).2.1, .int .i64 (compE p).2.2.1, .int .i64 (compE p).2.2.2]) ∧ Below w.heap.size w w') [{ target := .fn (.func 65) #[.pointer (some ⟨w.heap.size + 4, 0, none⟩)], args := #[] }] (.panicking [{ v := .iface 115 (.agg #[.int .i64 er]), recovered := false }]) w2 := by
    intro er tm w2 hb2 hE t2 t3 t4 t5
    have he2 := (hb2.block _ (heap_lt q4)).trans q4
    have hc2 : w2.cell? ⟨w.heap.size + 4, 0, none⟩ = some (.int .i64 0) := by rw [cell_of_heap he2]; rfl
    have hB2 : Below w.heap.size w w2 := hb.trans (hb2.mono hb.size)
    have hz2 := hb2.size
    have hb3 : Below w.heap.size w ((w2.alloc (.cells #[.int .i64 er] 115)).setCell ⟨w.heap.size + 4, 0, none⟩ (.int .i64 er)) :=
      (hB2.alloc hB2.size _).setCell (by simp) _
    have hcell := World.cell?_setCell_same (w2.alloc (.cells #[.int .i64 er] 115)) ⟨w.heap.size + 4, 0, none⟩ (.int .i64 er) (cell_stays ((Below.refl _ w2).alloc (Nat.le_refl _) _) hc2)
    have hkk : ∀ k, k < w2.heap.size → k ≠ w.heap.size + 4 → ((w2.alloc (.cells #[.int .i64 er] 115)).setCell ⟨w.heap.size + 4, 0, none⟩ (.int .i64 er)).heap[k]? = w2.heap[k]? := fun k hk hne => (Below.heap_setCell _ _ _ _ hne).trans (Below.heap_alloc _ _ _ hk)
    have g1 := (hkk (w.heap.size + 1) (by omega) (by omega)).trans ((hb2.block (w.heap.size + 1) (by omega)).trans q1)
    have g2 := (hkk (w.heap.size + 2) (by omega) (by omega)).trans ((hb2.block (w.heap.size + 2) (by omega)).trans q2)
    have g3 := (hkk (w.heap.size + 3) (by omega) (by omega)).trans ((hb2.block (w.heap.size + 3) (by omega)).trans q3)
    refine leaves_no (recov65_no er hc2 (frozen_of_heap he2)) rfl HC.out (res_cccc rfl _ t2 t3 t4 t5 (x := .int .i64 0) (y := .int .i64 0) (z := .int .i64 0) (by rw [cell_of_heap g1]; rfl) (by rw [cell_of_heap g2]; rfl) (by rw [cell_of_heap g3]; rfl) hcell) ⟨?_, hb3⟩
    rw [hE]
  have HFL := Lib.hid HFAIL
  clear HFAIL
  refine (sorter66 (ha.mono hb) hn).mono ?_
  rintro e w2 ⟨h2, hb2⟩
  rcases h2 with ⟨hE, sb, mb, v, rfl, hS, hm, hsb, hmb, hR⟩ | ⟨hE, rfl⟩
  · have hv := ordersE_valid hE
    have hfew := orders_few hv
    have HMA : Hid (manyS (allS (ordersL p).length) = (ordersL p).length) := many_all (by omega)
    have HE := Lib.hid hE
    have HF := Lib.hid (And.intro hS (And.intro hR (And.intro hsb (And.intro hb2 (And.intro q1 (And.intro q2 (And.intro q3 (And.intro q4 (And.intro hz hb)))))))))
    clear hS hR hm hsb hmb hb2 q0 q1 q2 q3 q4 hz hb hE hv ha
    go_wp2_with fail
    have hb3 : Below w2.heap.size w2 (w2.alloc (.cells (leftA (allS (ordersL p).length)) 95)) := (Below.refl _ _).alloc (Nat.le_refl _) _
    have q7 := World.alloc_heap_new w2 (.cells (leftA (allS (ordersL p).length)) 95)
    have hz3 : (w2.alloc (.cells (leftA (allS (ordersL p).length)) 95)).heap.size = w2.heap.size + 1 := by simp
    refine (many_any (allS_lt (n := (ordersL p).length) (by omega)) _).mono ?_
    rintro e w4 ⟨rfl, hb4⟩
    have hb24 : Below w2.heap.size w2 w4 := hb3.trans (hb4.mono hb3.size)
    have q7' := (hb4.block _ (heap_lt q7)).trans q7
    have H4 := Lib.hid (And.intro hb24 q7')
    rw [HMA.out]
    clear hb3 q7 hz3 hb4 hb24 q7'
    by_cases hle : (ordersL p).length ≤ 1
    · have hCE : Hid (compE p = (0, 0, 0, 4)) := by rw [Hid]; unfold compE; rw [if_pos HE.out, if_pos hle]
      have HD : Hid (decide ((1 : Int) < ((ordersL p).length : Int)) = false) := by rw [Hid]; simp; omega
      clear hle
      go_wp2_with fail
      rw [HD.out]
      refine (need_no _ _).mono ?_
      rintro e w' ⟨rfl, rfl⟩
      go_wp2_with fail
      exact ⟨[], _, rfl, HFL.out 4 _ _ (HF.out.2.2.2.1.trans (H4.out.1.mono HF.out.2.2.2.1.size)) hCE.out rfl rfl rfl rfl⟩
    · have hCE : Hid (compE p = (((cmpN (ordersL p) p.cards.length (pairsL p.cards.length).length).1 : Int), ((cmpN (ordersL p) p.cards.length (pairsL p.cards.length).length).2.1 : Int), ((cmpN (ordersL p) p.cards.length (pairsL p.cards.length).length).2.2 : Int), 0)) := by rw [Hid]; unfold compE; rw [if_pos HE.out, if_neg hle]
      have HD : Hid (decide ((1 : Int) < ((ordersL p).length : Int)) = true) := by rw [Hid]; simp; omega
      clear hle
      go_wp2_with fail
      rw [HD.out]
      refine (need_yes _ _).mono ?_
      rintro e w' ⟨rfl, rfl⟩
      have c7 : w4.cell? ⟨w2.heap.size, 0, none⟩ = some (.int .u64 (loN (allS (ordersL p).length))) := by rw [cell_of_heap H4.out.2]; rfl
      have c8 : w4.cell? ⟨w2.heap.size, 1, none⟩ = some (.int .u64 (hiN (allS (ordersL p).length))) := by rw [cell_of_heap H4.out.2]; rfl
      go_wp2_with fail
      refine (many_any (allS_lt (n := (ordersL p).length) (by omega)) _).mono ?_
      rintro e w5 ⟨rfl, hb5⟩
      rw [HMA.out]
      clear c7 c8
      obtain ⟨hS, hR, hsb, hb2, q1, q2, q3, q4, hz, hb⟩ := HF.out
      have hb25 : Below w2.heap.size w2 w5 := H4.out.1.trans (hb5.mono H4.out.1.size)
      have hb15 : Below W1.heap.size W1 w5 := hb2.trans (hb25.mono hb2.size)
      have s3 := (hb15.block (w.heap.size + 3) (by omega)).trans q3
      have hfz : w5.frozen? ⟨w.heap.size + 3, 0, none⟩ = false := frozen_of_heap s3
      have hcl : w5.cell? ⟨w.heap.size + 3, 0, none⟩ = some (.int .i64 0) := by rw [cell_of_heap s3]; rfl
      have hln : ((ordersL p).length : Int) ≤ 120 := by omega
      have H5 := Lib.hid (And.intro hb25 hb15)
      have H45 := Lib.hid hb5
      clear hS hR hsb hb2 q1 q2 q3 q4 hz hb hb25 hb15 s3 hb5
      go_wp2_with fail
      refine pairs_any.mono ?_
      rintro e w9 ⟨rfl, hw9⟩
      obtain ⟨hS, hR, hsb, hb2, q1, q2, q3, q4, hz, hb⟩ := HF.out
      obtain ⟨hb25, hb15⟩ := H5.out
      have hz9 : w9.heap.size = w5.heap.size + 2 := by rw [hw9]; simp
      have k9 : ∀ k, k < w5.heap.size → k ≠ w.heap.size + 3 → w9.heap[k]? = w5.heap[k]? := fun k hk hne => by
        rw [hw9]
        exact (Below.heap_alloc _ _ _ (by simp; omega)).trans ((Below.heap_alloc _ _ _ (by simp; omega)).trans (Below.heap_setCell _ _ _ _ hne))
      have e8 : w9.heap[w5.heap.size]? = some (.cells #[.func (.func 69) #[.pointer (some ⟨sb, 0, none⟩)] #[]] 99 (0, 0)) := by
        rw [hw9]
        have := World.alloc_heap_new (w5.setCell ⟨w.heap.size + 1 + 1 + 1, 0, none⟩ (.int .i64 ((ordersL p).length + 1))) (.cells #[.func (.func 69) #[.pointer (some ⟨sb, 0, none⟩)] #[]] 99)
        rw [World.size_setCell] at this
        exact (Below.heap_alloc _ _ _ (by simp)).trans this
      have ep : w9.heap[w5.heap.size + 1]? = some (.cells #[.pointer (some ⟨sb, 0, none⟩)] 92 (0, 0)) := by
        rw [hw9]
        have := World.alloc_heap_new ((w5.setCell ⟨w.heap.size + 1 + 1 + 1, 0, none⟩ (.int .i64 ((ordersL p).length + 1))).alloc (.cells #[.func (.func 69) #[.pointer (some ⟨sb, 0, none⟩)] #[]] 99)) (.cells #[.pointer (some ⟨sb, 0, none⟩)] 92)
        rw [World.size_alloc, World.size_setCell] at this
        exact this
      have hzz := hb2.size
      have hzz2 := hb25.size
      have s3 := (hb15.block (w.heap.size + 3) (by omega)).trans q3
      have e3 : w9.heap[w.heap.size + 3]? = some (.cells #[.int .i64 (((ordersL p).length + 1 : Nat) : Int)] 3 (0, 0)) := by
        rw [hw9]
        exact (Below.heap_alloc _ _ _ (by simp; omega)).trans ((Below.heap_alloc _ _ _ (by simp; omega)).trans (heap_setCell_at (k := 0) s3 _))
      have e1 := (k9 (w.heap.size + 1) (by omega) (by omega)).trans ((hb15.block (w.heap.size + 1) (by omega)).trans q1)
      have e2 := (k9 (w.heap.size + 2) (by omega) (by omega)).trans ((hb15.block (w.heap.size + 2) (by omega)).trans q2)
      have e4 := (k9 (w.heap.size + 4) (by omega) (by omega)).trans ((hb15.block (w.heap.size + 4) (by omega)).trans q4)
      have e7 := (k9 w2.heap.size (by have := heap_lt H4.out.2; have := H45.out.size; omega) (by omega)).trans (show w5.heap[w2.heap.size]? = some (.cells (leftA (allS (ordersL p).length)) 95 (0, 0)) from (H45.out.block _ (heap_lt H4.out.2)).trans H4.out.2)
      have hS9 : Srt w9 sb mb p.cards.length v (ordersL p) := hS.keptR hR (fun k hk hk2 => (k9 k (by omega) (by omega)).trans (hb25.block k hk2)) hsb
      have hR9 : RowsAt w9 W1.heap.size v (ordersL p) := hR.blocks' (fun k hk hk2 => (k9 k (by omega) (by omega)).trans (hb25.block k hk2))
      have hb9 : Below w.heap.size w w9 := by
        rw [hw9]
        have h1 : Below w.heap.size w w5 := hb.trans (hb15.mono hb.size)
        have h2 := h1.setCell (p := ⟨w.heap.size + 1 + 1 + 1, 0, none⟩) (by show w.heap.size ≤ w.heap.size + 1 + 1 + 1; omega) (.int .i64 ((ordersL p).length + 1))
        exact (h2.alloc h2.size _).alloc (by simp; have := h1.size; omega) _
      have hI9 : CmpI w9 w.heap.size (0, 0, (ordersL p).length + 1) w9 := ⟨Same.refl _ _, e1, e2, e3⟩
      have H9 := Lib.hid (And.intro hS9 (And.intro hR9 (And.intro hI9 (And.intro e4 (And.intro e7 (And.intro e8 (And.intro ep (And.intro hb9 hsb))))))))
      have HZ : Hid (w.heap.size + 5 ≤ W1.heap.size ∧ W1.heap.size ≤ w2.heap.size ∧ w2.heap.size < w5.heap.size ∧ w9.heap.size = w5.heap.size + 2) := ⟨by omega, hzz, by have := heap_lt H4.out.2; have := H45.out.size; omega, hz9⟩
      clear hS hR hsb hb2 q1 q2 q3 q4 hz hb hb25 hb15 hz9 k9 e8 ep hzz hzz2 s3 e3 e1 e2 e4 e7 hS9 hR9 hb9 hI9 hw9 hfz hcl
      go_wp2_with fail
      obtain ⟨hz1, hz2, hz5, hz9⟩ := HZ.out
      refine wp_rangeFuncC (gf := 108) (lb := #[.pointer (some ⟨w5.heap.size + 1, 0, none⟩)]) rfl (fun args w => by simp [callFunc, Try.func108, Try.f108, go_sem]) (pairsL p.cards.length).length (PairOk p.cards.length) (fun q => q = w.heap.size + 1 ∨ q = w.heap.size + 2 ∨ q = w.heap.size + 3 ∨ q = w9.heap.size + 1) ?hps (by omega) (by omega) ?hit
        (fun i A C => CmpI w9 w.heap.size (cmpN (ordersL p) p.cards.length i) A ∧ ∀ k, k < w9.heap.size + 2 → C k) (fun _ _ _ _ => False) ?hI ?hIx ?hh0 ?hround ?hdone ?hstop
      case hps =>
        rintro i v A K ⟨a, b, _, rfl, _⟩
        rfl
      case hit =>
        intro W hb hsz
        refine pairs_iter (n := p.cards.length) (sb := sb) (by omega) (fun A hA => ?_)
        obtain ⟨hS9, hR9, hI9, e4, e7, e8, ep, hb9, hsb⟩ := H9.out
        have hsl := heap_lt hS9.s
        have eP := (hA.block (w5.heap.size + 1) (by omega) (by omega)).trans ((hb.block _ (by omega)).trans ep)
        have eS := (hA.block sb (by omega) (by omega)).trans ((hb.block _ hsl).trans hS9.s)
        exact ⟨by rw [cell_of_heap eP]; rfl, by rw [cell_of_heap eS]; rfl⟩
      case hI =>
        intro i A B C h hs
        exact ⟨h.1.stable hs (by omega) (by omega) (fun k hk => h.2 k (by omega)), h.2⟩
      case hIx =>
        intro c i A B C h _
        exact h
      case hh0 =>
        intro W hb hsz
        exact ⟨H9.out.2.2.1.below hb, fun k hk => hk⟩
      case hround =>
        rintro i vx W C K hiN ⟨a, b, hab, rfl, rfl⟩ hKC hC ⟨hI, hC0⟩ hlt
        have HH := Lib.hid (And.intro hC (And.intro hI (And.intro hlt hab)))
        clear hKC hC hI hlt hiN hC0 hab hz1 hz2 hz5 hz9
        gi_wp2_with fail
        refine ⟨trivial, fun V2 hS2 hsz2 => ?_⟩
        obtain ⟨hC, hI, hlt, hab⟩ := HH.out
        obtain ⟨hz1, hz2, hz5, hz9⟩ := HZ.out
        obtain ⟨hS9, hR9, hI9, e4, e7, e8, ep, hb9, hsb⟩ := H9.out
        have hI2 := hI.stable (C := C) (lb := w9.heap.size + 1) (hS2.mono (fun _ _ e => .inr e)) (by omega) (by omega) (fun k hk => hC k (by omega))
        have hSV : Srt V2 sb mb p.cards.length v (ordersL p) := hS9.keptR hR9 (fun k hk hk2 => hI2.same.block k hk2 (by omega)) hsb
        have f8 := (hI2.same.block _ (heap_lt e8) (by omega)).trans e8
        have f7 := (hI2.same.block _ (heap_lt e7) (by omega)).trans e7
        have m0 : V2.cell? ⟨w5.heap.size, 0, none⟩ = some (.func (.func 69) #[.pointer (some ⟨sb, 0, none⟩)] #[]) := by rw [cell_of_heap f8]; rfl
        have m1 : V2.cell? ⟨w2.heap.size, 0, none⟩ = some (.int .u64 (loN (allS (ordersL p).length))) := by rw [cell_of_heap f7]; rfl
        have m2 : V2.cell? ⟨w2.heap.size, 1, none⟩ = some (.int .u64 (hiN (allS (ordersL p).length))) := by rw [cell_of_heap f7]; rfl
        have HI2 := Lib.hid (And.intro hC (And.intro hI2 (And.intro hSV (And.intro (show w9.heap.size + 1 < V2.heap.size by omega) hab))))
        clear hC hI hlt hab hz1 hz2 hz5 hz9 hS9 hR9 hI9 e4 e7 e8 ep hb9 hsb hI2 hSV f8 f7 hS2 hsz2 HH
        gi_wp2_with fail
        refine ⟨trivial, rfl, wideAt_calls ((compared_any (S := allS (ordersL p).length) (a := a) (b := b) HI2.out.2.2.1 (by omega) (fun o ho => by rw [orders_at ho]; exact hn) (allS_lt (by omega))).mono ?_)⟩
        rintro e w6 ⟨rfl, hb6⟩
        have hsm := cmpN_small (ordersL p) p.cards.length i (by omega) hn
        have HST : Hid (cmpN (ordersL p) p.cards.length (i + 1) = cmpStep (ordersL p) (cmpN (ordersL p) p.cards.length i) (a, b)) := cmpN_succ HI2.out.2.2.2.2
        have HSN : Hid (cmpStep (ordersL p) (cmpN (ordersL p) p.cards.length i) (a, b) = if mxN (manyS (befS (ordersL p) (allS (ordersL p).length) a b)) (manyS (aftS (ordersL p) (allS (ordersL p).length) a b)) < (cmpN (ordersL p) p.cards.length i).2.2 then (a, b, mxN (manyS (befS (ordersL p) (allS (ordersL p).length) a b)) (manyS (aftS (ordersL p) (allS (ordersL p).length) a b))) else cmpN (ordersL p) p.cards.length i) := rfl
        have HXL : Hid (befS (ordersL p) (allS (ordersL p).length) a b < 2 ^ 128 ∧ aftS (ordersL p) (allS (ordersL p).length) a b < 2 ^ 128) := ⟨bef_lt (by omega) _ _ _, aft_lt (by omega) _ _ _⟩
        obtain ⟨X, hX⟩ : ∃ X, befS (ordersL p) (allS (ordersL p).length) a b = X := ⟨_, rfl⟩
        obtain ⟨Y, hY⟩ : ∃ Y, aftS (ordersL p) (allS (ordersL p).length) a b = Y := ⟨_, rfl⟩
        rw [hX, hY] at HSN HXL ⊢
        clear hX hY m0 m1 m2
        have HB6 := Lib.hid hb6
        clear hb6
        gi_wp2_with fail
        obtain ⟨q11, q12, hz7, _⟩ := heap2 w6 (.cells (leftA X) 95) (.cells (leftA Y) 95)
        have hb7 : Below V2.heap.size V2 ((w6.alloc (.cells (leftA X) 95)).alloc (.cells (leftA Y) 95)) := (HB6.out.alloc HB6.out.size _).alloc (by simp; have := HB6.out.size; omega) _
        revert hb7 q11 q12 hz7
        generalize ((w6.alloc (.cells (leftA X) 95)).alloc (.cells (leftA Y) 95)) = w7
        intro q11 q12 hz7 hb7
        refine cp10 (b11 := w6.heap.size) (b12 := w6.heap.size + 1) (xl := loN X) (xh := hiN X) (yl := loN Y) (yh := hiN Y) (mx := manyS X) (my := manyS Y) (S0 := fun w' => Below w7.heap.size w7 w') (S1 := fun _ w' => Below w7.heap.size w7 w') (S2 := fun _ _ w' => Below w7.heap.size w7 w') ?g0 ?g1 ?g2 ?g3 ?g4 ?gQ
        case g0 => exact (Below.refl _ _).drew
        case g1 =>
          intro w' h
          have e := (h.block _ (heap_lt q11)).trans q11
          exact ⟨by rw [cell_of_heap e]; rfl, by rw [cell_of_heap e]; rfl⟩
        case g2 =>
          intro w' h
          refine (many_any HXL.out.1 w').mono ?_
          rintro e w8 ⟨rfl, hb8⟩
          exact ⟨(), rfl, h.trans (hb8.mono h.size)⟩
        case g3 =>
          intro u w' h
          have hb' : Below w7.heap.size w7 w' := by rcases h with h | h <;> exact h
          have e := (hb'.block _ (heap_lt q12)).trans q12
          exact ⟨by rw [cell_of_heap e]; rfl, by rw [cell_of_heap e]; rfl⟩
        case g4 =>
          intro u w' h
          refine (many_any HXL.out.2 w').mono ?_
          rintro e w8 ⟨rfl, hb8⟩
          exact ⟨(), rfl, h.trans (hb8.mono h.size)⟩
        case gQ =>
          intro u1 u2 w8 hb8
          obtain ⟨hC, hI2, hSV, hlt, hab⟩ := HI2.out
          obtain ⟨hz1, hz2, hz5, hz9⟩ := HZ.out
          have hb28 : Below V2.heap.size V2 w8 := hb7.trans (hb8.mono hb7.size)
          have hI8 := hI2.below hb28
          have t0 : w8.cell? ⟨w.heap.size + 3, 0, none⟩ = some (.int .i64 ((cmpN (ordersL p) p.cards.length i).2.2 : Int)) := by rw [cell_of_heap hI8.c3]; rfl
          obtain ⟨v1, t1⟩ : ∃ u, w8.cell? ⟨w.heap.size + 1, 0, none⟩ = some u := ⟨_, by rw [cell_of_heap hI8.c1]; rfl⟩
          obtain ⟨v2, t2⟩ : ∃ u, w8.cell? ⟨w.heap.size + 2, 0, none⟩ = some u := ⟨_, by rw [cell_of_heap hI8.c2]; rfl⟩
          have z1 : w8.frozen? ⟨w.heap.size + 1, 0, none⟩ = false := frozen_of_heap hI8.c1
          have z2 : w8.frozen? ⟨w.heap.size + 2, 0, none⟩ = false := frozen_of_heap hI8.c2
          have z3 : w8.frozen? ⟨w.heap.size + 3, 0, none⟩ = false := frozen_of_heap hI8.c3
          have H8 := Lib.hid (And.intro hI8 hb28)
          clear hC hI2 hSV hlt hab hz1 hz2 hz5 hz9 hb28 hI8 hb8 hb7 q11 q12 hz7
          by_cases hlt : mxN (manyS X) (manyS Y) < (cmpN (ordersL p) p.cards.length i).2.2
          · have HLT := Lib.hid hlt
            have hlt' : ((mxN (manyS X) (manyS Y) : Nat) : Int) < ((cmpN (ordersL p) p.cards.length i).2.2 : Int) := by omega
            clear hlt
            gi_wp2_with fail
            obtain ⟨hC, hI2, hSV, hlt, hab⟩ := HI2.out
            obtain ⟨hz1, hz2, hz5, hz9⟩ := HZ.out
            obtain ⟨hI8, hb28⟩ := H8.out
            refine cmp_end (r' := cmpN (ordersL p) p.cards.length (i + 1)) ((((Same.of_below _ hb28).setCell (.inl (.inl rfl)) _).setCell (.inl (.inr (.inl rfl))) _).setCell (.inl (.inr (.inr rfl))) _) hC (by omega) hlt ?_
            rw [HST.out, HSN.out, if_pos HLT.out]
            refine ⟨((hI8.same.setCell (.inl (.inl rfl)) _).setCell (.inl (.inr (.inl rfl))) _).setCell (.inl (.inr (.inr rfl))) _, ?_, ?_, ?_⟩
            · exact (Below.heap_setCell _ _ _ _ (by show w.heap.size + 1 ≠ w.heap.size + 3; omega)).trans ((Below.heap_setCell _ _ _ _ (by show w.heap.size + 1 ≠ w.heap.size + 2; omega)).trans (heap_setCell_at (k := 0) hI8.c1 _))
            · exact (Below.heap_setCell _ _ _ _ (by show w.heap.size + 2 ≠ w.heap.size + 3; omega)).trans (heap_setCell_at (k := 0) ((Below.heap_setCell _ _ _ _ (by show w.heap.size + 2 ≠ w.heap.size + 1; omega)).trans hI8.c2) _)
            · exact heap_setCell_at (k := 0) ((Below.heap_setCell _ _ _ _ (by show w.heap.size + 3 ≠ w.heap.size + 2; omega)).trans ((Below.heap_setCell _ _ _ _ (by show w.heap.size + 3 ≠ w.heap.size + 1; omega)).trans hI8.c3)) _
          · have HLT := Lib.hid hlt
            have hlt' : ¬ ((mxN (manyS X) (manyS Y) : Nat) : Int) < ((cmpN (ordersL p) p.cards.length i).2.2 : Int) := by omega
            clear hlt
            gi_wp2_with fail
            obtain ⟨hC, hI2, hSV, hlt, hab⟩ := HI2.out
            obtain ⟨hz1, hz2, hz5, hz9⟩ := HZ.out
            obtain ⟨hI8, hb28⟩ := H8.out
            refine cmp_end (r' := cmpN (ordersL p) p.cards.length (i + 1)) (Same.of_below _ hb28) hC (by omega) hlt ?_
            rw [HST.out, HSN.out, if_neg HLT.out]
            exact hI8
      case hdone =>
        rintro W C ⟨hI, hC⟩ hdef
        have HI := Lib.hid (And.intro hI hdef)
        clear hI hdef hC
        go_wp2_with fail
        have hT : ∀ w', Below W.heap.size W w' → CmpT W w.heap.size (cmpN (ordersL p) p.cards.length (pairsL p.cards.length).length) w' := fun w' h => by
          obtain ⟨hS9, hR9, hI9, e4, e7, e8, ep, hb9, hsb⟩ := H9.out
          have e4' := (HI.out.1.same.block _ (heap_lt e4) (by omega)).trans e4
          exact ⟨Same.of_below _ h, (h.block _ (heap_lt HI.out.1.c1)).trans HI.out.1.c1, (h.block _ (heap_lt HI.out.1.c2)).trans HI.out.1.c2, (h.block _ (heap_lt HI.out.1.c3)).trans HI.out.1.c3, (h.block _ (heap_lt e4')).trans e4'⟩
        refine wpIn_wide.1 (cp13 (b2 := w.heap.size + 1) (b3 := w.heap.size + 2) (b4 := w.heap.size + 3) (b5 := w.heap.size + 4) (x := (cmpN (ordersL p) p.cards.length (pairsL p.cards.length).length).1) (y := (cmpN (ordersL p) p.cards.length (pairsL p.cards.length).length).2.1) (z := (cmpN (ordersL p) p.cards.length (pairsL p.cards.length).length).2.2)
          (S0 := CmpT W w.heap.size (cmpN (ordersL p) p.cards.length (pairsL p.cards.length).length)) (S1 := CmpT W w.heap.size (cmpN (ordersL p) p.cards.length (pairsL p.cards.length).length)) (S2 := CmpT W w.heap.size (cmpN (ordersL p) p.cards.length (pairsL p.cards.length).length)) (S3 := CmpT W w.heap.size (cmpN (ordersL p) p.cards.length (pairsL p.cards.length).length)) (S4 := CmpT W w.heap.size (cmpN (ordersL p) p.cards.length (pairsL p.cards.length).length)) ?x0 ?x1 ?x2 ?x3 ?x4 ?x5 ?x6 ?x7 ?xQ)
        case x0 => exact hT _ (Below.refl _ _).drew
        case x1 =>
          intro w' h
          have h : CmpT W w.heap.size (cmpN (ordersL p) p.cards.length (pairsL p.cards.length).length) w' := by
            first | exact h | (rcases h with h | h | h | h <;> exact h) | (rcases h with h | h | h <;> exact h) | (rcases h with h | h <;> exact h)
          rw [cell_of_heap h.c1]; rfl
        case x2 =>
          intro w' h
          have h : CmpT W w.heap.size (cmpN (ordersL p) p.cards.length (pairsL p.cards.length).length) w' := by
            first | exact h | (rcases h with h | h | h | h <;> exact h) | (rcases h with h | h | h <;> exact h) | (rcases h with h | h <;> exact h)
          rw [cell_of_heap h.c2]; rfl
        case x3 =>
          intro w' h
          have h : CmpT W w.heap.size (cmpN (ordersL p) p.cards.length (pairsL p.cards.length).length) w' := by
            first | exact h | (rcases h with h | h | h | h <;> exact h) | (rcases h with h | h | h <;> exact h) | (rcases h with h | h <;> exact h)
          rw [cell_of_heap h.c3]; rfl
        case x4 => exact fun w' h => ⟨⟨_, by rw [cell_of_heap h.c1]; rfl⟩, frozen_of_heap h.c1, h.s1⟩
        case x5 => exact fun w' h => ⟨⟨_, by rw [cell_of_heap h.c2]; rfl⟩, frozen_of_heap h.c2, h.s2⟩
        case x6 => exact fun w' h => ⟨⟨_, by rw [cell_of_heap h.c3]; rfl⟩, frozen_of_heap h.c3, h.s3⟩
        case x7 => exact fun w' h => ⟨⟨_, by rw [cell_of_heap h.c4]; rfl⟩, frozen_of_heap h.c4, h.s4⟩
        case xQ =>
          intro X hX
          have HX := Lib.hid hX
          clear hX hT hz1 hz2 hz5 hz9
          go_wp2_with fail
          obtain ⟨hz1, hz2, hz5, hz9⟩ := HZ.out
          obtain ⟨hX, x1, x2, x3, x4⟩ := HX.out
          obtain ⟨hS9, hR9, hI9, e4, e7, e8, ep, hb9, hsb⟩ := H9.out
          have hWz := HI.out.1.same.size
          have hdl := heap_lt HI.out.2
          have e5 : X.heap[w9.heap.size]? = some (.deferred (some [])) := (hX.block _ hdl (by omega)).trans HI.out.2
          have hBX : Below w.heap.size w X := (hb9.trans (HI.out.1.same.below (by omega) (fun k hk e => by omega))).trans (hX.below (by omega) (fun k hk e => by omega))
          have hput : Below w.heap.size w (X.putObj w9.heap.size (.deferred none)) :=
            (((Same.of_below (fun q => w.heap.size ≤ q) hBX).putObj (.inl (by omega)) _).below (Nat.le_refl _) (fun q hq h => by omega))
          have g1 : (X.putObj w9.heap.size (.deferred none)).heap[w.heap.size + 1]? = _ := (World.putObj_heap_other (by omega)).trans x1
          have g2 : (X.putObj w9.heap.size (.deferred none)).heap[w.heap.size + 2]? = _ := (World.putObj_heap_other (by omega)).trans x2
          have g3 : (X.putObj w9.heap.size (.deferred none)).heap[w.heap.size + 3]? = _ := (World.putObj_heap_other (by omega)).trans x3
          have g4 : (X.putObj w9.heap.size (.deferred none)).heap[w.heap.size + 4]? = _ := (World.putObj_heap_other (by omega)).trans x4
          refine ⟨[w9.heap.size], _, rfl, by simp, _, run_takeDeferred e5, leaves_ok (recov65_ok _ _) HC.out (res_cccc rfl _ rfl rfl rfl rfl (x := .int .i64 ((cmpN (ordersL p) p.cards.length (pairsL p.cards.length).length).1 : Int)) (y := .int .i64 ((cmpN (ordersL p) p.cards.length (pairsL p.cards.length).length).2.1 : Int)) (z := .int .i64 ((cmpN (ordersL p) p.cards.length (pairsL p.cards.length).length).2.2 : Int)) (e := .int .i64 0) (by rw [cell_of_heap g1]; rfl) (by rw [cell_of_heap g2]; rfl) (by rw [cell_of_heap g3]; rfl) (by rw [cell_of_heap g4]; rfl)) ⟨?_, hput⟩⟩
          rw [hCE.out]
      case hstop =>
        intro c i W C _ h
        exact h.elim
  · have hCE : compE p = (0, 0, 0, ordersE p) := by unfold compE; rw [if_neg hE]
    exact ⟨[], _, rfl, HFL.out _ _ _ hb2 hCE rfl rfl rfl rfl⟩
end Go.Proofs.Ytnfhlbmapfoifaa
namespace Go.Proofs.Ytnfhlbmapfoifaa
open Go.RowKit
set_option linter.unusedVariables false
theorem eq_gi {l m : List Int} (hl : l.length = m.length) (h : ∀ j, j < l.length → gi l j = gi m j) : l = m := by
  refine List.ext_getElem hl (fun i h1 h2 => ?_)
  have := h i h1
  simpa [gi, h1, h2] using this
set_option maxRecDepth 100000 in
set_option maxHeartbeats 1000000 in
theorem ints_eq {l m : List Int} {a b : Option Addr} {ca cb : Nat} {w : World} (ha : IsInts w a l) (hb : IsInts w b m) (hl : l.length = m.length) (h5 : l.length ≤ 30) :
    Calls Try.prog 27 #[.slice a l.length ca, .slice b l.length cb] w fun e w' => e = .returned (.bool (decide (l = m))) ∧ Below w.heap.size w w' := by
  have HL := Lib.hid (And.intro hl (And.intro ha hb))
  have hlb : ((l.length : Int) == (l.length : Int)) = true := by simp
  clear ha hb hl
  go_enter Try.func27, Try.ntmps27
  go_wp2_with fail
  go_loopw [5] (fun i wr => ∃ k : Nat, k ≤ l.length ∧ i = .int .i64 k ∧ Hid (∀ j, j < k → gi l j = gi m j) ∧ Below w.heap.size w wr) (fun i _ => l.length - (intOf i).toNat)
  case atStart => exact ⟨0, by omega, rfl, fun j hj => by omega, Below.refl _ _⟩
  case round =>
    obtain ⟨k, hk, rfl, HK, hbr⟩ := hrel
    by_cases hlt : k < l.length
    · obtain ⟨hlm, ha, hb⟩ := HL.out
      obtain ⟨b1, o1, rfl, q1⟩ := ha.mono hbr k hlt
      obtain ⟨b2, o2, rfl, q2⟩ := hb.mono hbr k (by omega)
      have x0 := fun y : Aft wr.heap.size wr => cell_stays y.h q1
      have x1 := fun y : Aft wr.heap.size wr => cell_stays y.h q2
      clear ha hb hlm
      by_cases he : gi l k = gi m k
      · have h1 : (gi l k == gi m k) = true := by simp [he]
        have h2 : (gi l k != gi m k) = false := by simp [he]
        have HE := Lib.hid he
        clear he
        go_wp2_with fail
        refine wp_region_aft mixed (by kernel_rfl) ?_
        repeat (go_big_quiet_step (fail))
        refine wpQuiet_nil ?_
        rintro _ ⟨y, rfl⟩
        go_wp2_with fail
        go_roundw
        case rel => exact ⟨k + 1, by omega, by go_num, fun j hj => by
          by_cases e : j = k
          · subst e; exact HE.out
          · exact HK.out j (by omega), hbr.trans (y.h.mono hbr.size)⟩
        case measure => simp [intOf]; omega
      · have h1 : (gi l k == gi m k) = false := by simpa using he
        have h2 : (gi l k != gi m k) = true := by simpa using he
        have HE := Lib.hid he
        clear he
        go_wp2_with fail
        refine wp_region_aft mixed (by kernel_rfl) ?_
        repeat (go_big_quiet_step (fail))
        refine wpQuiet_nil ?_
        rintro _ ⟨y, rfl⟩
        go_wp2_with fail
        go_ret
        refine ⟨ret_bool ?_, hbr.trans (y.h.mono hbr.size)⟩
        have : l ≠ m := fun e => HE.out (by rw [e])
        simp [this]
    · obtain rfl : k = l.length := by omega
      go_wp2_with fail
      go_ret
      refine ⟨ret_bool ?_, hbr⟩
      have : l = m := eq_gi HL.out.1 HK.out
      simp [this]
set_option maxHeartbeats 1000000 in
theorem ints_ne {l m : List Int} {a b : Option Addr} {ca cb : Nat} {w : World} (hl : l.length ≠ m.length) (h5 : l.length ≤ 1000000) (h6 : m.length ≤ 1000000) :
    Calls Try.prog 27 #[.slice a l.length ca, .slice b m.length cb] w fun e w' => e = .returned (.bool (decide (l = m))) ∧ Below w.heap.size w w' := by
  have HE : Hid (decide (l = m) = false) := by rw [Hid]; simp; intro e; exact hl (by rw [e])
  have hlb : ((l.length : Int) != (m.length : Int)) = true := by simp; omega
  clear hl
  go_enter Try.func27, Try.ntmps27
  go_wp2_with fail
  go_ret
  exact ⟨ret_bool HE.out.symm, Below.refl _ _⟩
theorem ints27 {l m : List Int} {a b : Option Addr} {ca cb : Nat} {w : World} (ha : IsInts w a l) (hb : IsInts w b m) (h5 : l.length ≤ 30) (h6 : m.length ≤ 30) :
    Calls Try.prog 27 #[.slice a l.length ca, .slice b m.length cb] w fun e w' => e = .returned (.bool (decide (l = m))) ∧ Below w.heap.size w w' := by
  by_cases hl : l.length = m.length
  · rw [← hl]; exact ints_eq ha hb hl h5
  · exact ints_ne hl (by omega) (by omega)
/-- A slice of lists that can be read. -/
def IsLists (w : World) (a : Option Addr) (l : List (List Int)) : Prop :=
  ∀ i, i < l.length → ∃ b off, a = some ⟨b, off, none⟩ ∧ ∃ ax cx, w.cell? ⟨b, off + i, none⟩ = some (.slice ax (l.getD i []).length cx) ∧ IsInts w ax (l.getD i [])
theorem IsLists.mono {w w' : World} {a : Option Addr} {l : List (List Int)} (h : IsLists w a l) (hb : Below w.heap.size w w') : IsLists w' a l := fun i hi => by
  obtain ⟨b, off, h1, ax, cx, h2, h3⟩ := h i hi
  exact ⟨b, off, h1, ax, cx, cell_stays hb h2, h3.mono hb⟩
theorem RowsAt.lists {w : World} {B : Nat} {v : Value} {l : List (List Int)} (h : RowsAt w B v l) : ∃ a c, v = .slice a l.length c ∧ IsLists w a l := by
  obtain ⟨vs, h1, h2⟩ := h
  obtain ⟨a, c, rfl, _⟩ := own_slice h1
  refine ⟨a, c, rfl, fun i hi => ?_⟩
  obtain ⟨g, cp, e, _, _, _, _, hc⟩ := own_cell h1 (by omega)
  cases e
  have hk' : l[i]? = some (l.getD i []) := by simp [hi]
  obtain ⟨vc, k1, k2⟩ := h2.2 i _ hk'
  obtain ⟨ax, cx, rfl, _⟩ := own_slice k2
  exact ⟨g, 0, rfl, ax, cx, by rw [Nat.zero_add]; exact hc i _ k1, own_ints k2⟩
theorem lists_snoc {l m : List (List Int)} {k : Nat} (h1 : k < l.length) (h2 : k < m.length) (h : ∀ j, j < k → l.getD j [] = m.getD j []) (he : l.getD k [] = m.getD k []) : ∀ j, j < k + 1 → l.getD j [] = m.getD j [] := fun j hj => by
  by_cases e : j = k
  · subst e; exact he
  · exact h j (by omega)
theorem eq_getD {l m : List (List Int)} (hl : l.length = m.length) (h : ∀ j, j < l.length → l.getD j [] = m.getD j []) : l = m := by
  refine List.ext_getElem hl (fun i h1 h2 => ?_)
  have := h i h1
  simpa [h1, h2] using this
set_option maxRecDepth 100000 in
set_option maxHeartbeats 2000000 in
theorem lists_eq {l m : List (List Int)} {a b : Option Addr} {ca cb : Nat} {w : World} (ha : IsLists w a l) (hb : IsLists w b m) (hl : l.length = m.length) (h5 : l.length ≤ 1000000) (h6 : ∀ x ∈ l, x.length ≤ 30) (h7 : ∀ x ∈ m, x.length ≤ 30) :
    Calls Try.prog 21 #[.slice a l.length ca, .slice b l.length cb] w fun e w' => e = .returned (.bool (decide (l = m))) ∧ Below w.heap.size w w' := by
  have HL := Lib.hid (And.intro hl (And.intro ha (And.intro hb (And.intro h6 h7))))
  have hlb : ((l.length : Int) == (l.length : Int)) = true := by simp
  clear ha hb hl h6 h7
  go_enter Try.func21, Try.ntmps21
  go_wp2_with fail
  go_loopw [5] (fun i wr => ∃ k : Nat, k ≤ l.length ∧ i = .int .i64 k ∧ Hid (∀ j, j < k → l.getD j [] = m.getD j []) ∧ Below w.heap.size w wr) (fun i _ => l.length - (intOf i).toNat)
  case atStart => exact ⟨0, by omega, rfl, fun j hj => by omega, Below.refl _ _⟩
  case round =>
    obtain ⟨k, hk, rfl, HK, hbr⟩ := hrel
    by_cases hlt : k < l.length
    · obtain ⟨hlm, ha, hb, h6, h7⟩ := HL.out
      obtain ⟨b1, o1, rfl, ax, cx, q1, i1⟩ := ha.mono hbr k hlt
      obtain ⟨b2, o2, rfl, ay, cy, q2, i2⟩ := hb.mono hbr k (by omega)
      have l1 := h6 (l.getD k []) (by simp [hlt])
      have l2 := h7 (m.getD k []) (by simp [show k < m.length by omega])
      have HSN := Lib.hid (lists_snoc (l := l) (m := m) hlt (by omega) HK.out)
      have HNE : Hid (l.getD k [] ≠ m.getD k [] → l ≠ m) := fun h e => h (by rw [e])
      obtain ⟨x, hx⟩ : ∃ x, l.getD k [] = x := ⟨_, rfl⟩
      obtain ⟨y, hy⟩ : ∃ y, m.getD k [] = y := ⟨_, rfl⟩
      rw [hx] at q1 i1 l1 HSN HNE
      rw [hy] at q2 i2 l2 HSN HNE
      have x0 := fun y : Aft wr.heap.size wr => cell_stays y.h q1
      have x1 := fun y : Aft wr.heap.size wr => cell_stays y.h q2
      have cI := fun z : Aft wr.heap.size wr => ints27 (w := z.v) (ca := cx) (cb := cy) (i1.mono z.h) (i2.mono z.h) l1 l2
      have CI := Lib.hid cI
      clear ha hb hlm h6 h7 hx hy cI
      by_cases he : x = y
      · have hd : decide (x = y) = true := by simpa using he
        have HE := Lib.hid he
        rw [hd] at CI
        clear he hd
        go_wp2_with fail
        refine wp_region_aft mixed (by kernel_rfl) ?_
        repeat (go_big_quiet_step ((go_at_call 27; exact calls_aft (CI.out _))))
        refine wpQuiet_nil ?_
        rintro _ ⟨z, rfl⟩
        go_wp2_with fail
        go_roundw
        case rel => exact ⟨k + 1, by omega, by go_num, HSN.out HE.out, hbr.trans (z.h.mono hbr.size)⟩
        case measure => simp [intOf]; omega
      · have hd : decide (x = y) = false := by simpa using he
        have HE := Lib.hid he
        rw [hd] at CI
        clear he hd
        go_wp2_with fail
        refine wp_region_aft mixed (by kernel_rfl) ?_
        repeat (go_big_quiet_step ((go_at_call 27; exact calls_aft (CI.out _))))
        refine wpQuiet_nil ?_
        rintro _ ⟨z, rfl⟩
        go_wp2_with fail
        go_ret
        refine ⟨ret_bool ?_, hbr.trans (z.h.mono hbr.size)⟩
        simp [HNE.out HE.out]
    · obtain rfl : k = l.length := by omega
      go_wp2_with fail
      go_ret
      refine ⟨ret_bool ?_, hbr⟩
      have : l = m := eq_getD HL.out.1 HK.out
      simp [this]
set_option maxHeartbeats 1000000 in
theorem lists_ne {l m : List (List Int)} {a b : Option Addr} {ca cb : Nat} {w : World} (hl : l.length ≠ m.length) (h5 : l.length ≤ 1000000) (h6 : m.length ≤ 1000000) :
    Calls Try.prog 21 #[.slice a l.length ca, .slice b m.length cb] w fun e w' => e = .returned (.bool (decide (l = m))) ∧ Below w.heap.size w w' := by
  have HE : Hid (decide (l = m) = false) := by rw [Hid]; simp; intro e; exact hl (by rw [e])
  have hlb : ((l.length : Int) != (m.length : Int)) = true := by simp; omega
  clear hl
  go_enter Try.func21, Try.ntmps21
  go_wp2_with fail
  go_ret
  exact ⟨ret_bool HE.out.symm, Below.refl _ _⟩
theorem lists21 {l m : List (List Int)} {a b : Option Addr} {ca cb : Nat} {w : World} (ha : IsLists w a l) (hb : IsLists w b m) (h5 : l.length ≤ 1000000) (h5' : m.length ≤ 1000000) (h6 : ∀ x ∈ l, x.length ≤ 30) (h7 : ∀ x ∈ m, x.length ≤ 30) :
    Calls Try.prog 21 #[.slice a l.length ca, .slice b m.length cb] w fun e w' => e = .returned (.bool (decide (l = m))) ∧ Below w.heap.size w w' := by
  by_cases hl : l.length = m.length
  · rw [← hl]; exact lists_eq ha hb hl h5 h6 h7
  · exact lists_ne hl (by omega) (by omega)
theorem res_c24' {fn : Func} {p : Tmp} (h : fn.results = #[.cell p 24]) (tmps : Array Value) {w : World} {a : Nat} {x y : Value} (hp : tmps.getD p undef = .pointer (some ⟨a, 0, none⟩)) (hx : w.cell? ⟨a, 0, none⟩ = some x) (hy : w.cell? ⟨a, 1, none⟩ = some y) :
    (results fn tmps).run Try.prog w = .ok (.agg #[x, y]) w := by
  have hp' : tmps[p]?.getD undef = .pointer (some ⟨a, 0, none⟩) := by simpa using hp
  simp [results, h, hp', hx, hy, go_sem]
theorem res_c54 {fn : Func} {p : Tmp} (h : fn.results = #[.cell p 54]) (tmps : Array Value) {w : World} {a : Nat} {x y z u v : Value} (hp : tmps.getD p undef = .pointer (some ⟨a, 0, none⟩)) (hx : w.cell? ⟨a, 0, none⟩ = some x) (hy : w.cell? ⟨a, 1, none⟩ = some y) (hz : w.cell? ⟨a, 2, none⟩ = some z) (hu : w.cell? ⟨a, 3, none⟩ = some u) (hv : w.cell? ⟨a, 4, none⟩ = some v) :
    (results fn tmps).run Try.prog w = .ok (.agg #[x, y, z, u, v]) w := by
  have hp' : tmps[p]?.getD undef = .pointer (some ⟨a, 0, none⟩) := by simpa using hp
  simp [results, h, hp', hx, hy, hz, hu, hv, go_sem]
set_option maxHeartbeats 1000000 in
theorem span_any (a b : Int) (w : World) : Calls Try.prog 31 #[.int .i64 a, .int .i64 b] w fun e w' => e = .returned (.agg #[.int .i64 a, .int .i64 b]) ∧ Below w.heap.size w w' := by
  have HB : Hid (Below w.heap.size w (w.alloc (.cells #[.int .i64 a, .int .i64 b] 24))) := (Below.refl _ w).alloc (Nat.le_refl _) _
  have HN := Lib.hid (World.alloc_heap_new w (.cells #[.int .i64 a, .int .i64 b] 24))
  go_enter Try.func31, Try.ntmps31
  go_wp2_with fail
  have hn := HN.out
  exact bodyPost_ret (v := .agg #[.int .i64 a, .int .i64 b]) (res_c24' rfl _ rfl (by rw [cell_of_heap hn]; rfl) (by rw [cell_of_heap hn]; rfl)) rfl ⟨rfl, HB.out⟩
set_option maxHeartbeats 1000000 in
theorem card_any (a b c d m : Int) (w : World) : Calls Try.prog 84 #[.int .i64 a, .int .i64 b, .int .i64 c, .int .i64 d, .int .i64 m] w fun e w' => e = .returned (Prt.v ⟨a, b, c, d, m⟩) ∧ Below w.heap.size w w' := by
  have q0 := World.alloc_heap_new w (.cells #[.int .i64 0, .int .i64 0, .int .i64 0, .int .i64 0, .int .i64 0] 54)
  have hb0 : Below w.heap.size w (w.alloc (.cells #[.int .i64 0, .int .i64 0, .int .i64 0, .int .i64 0, .int .i64 0] 54)) := (Below.refl _ w).alloc (Nat.le_refl _) _
  have H0 := Lib.hid (And.intro q0 hb0)
  clear q0 hb0
  go_enter Try.func84, Try.ntmps84
  go_wp2_with fail
  refine (span_any a b _).mono ?_
  rintro e w1 ⟨rfl, hb1⟩
  have HB1 := Lib.hid hb1
  clear hb1
  go_wp2_with fail
  refine (span_any c d _).mono ?_
  rintro e w2 ⟨rfl, hb2⟩
  have q2 := (hb2.block _ (by have := HB1.out.size; simp at this; omega)).trans ((HB1.out.block _ (by simp)).trans H0.out.1)
  have hB2 : Below w.heap.size w w2 := bst (bst H0.out.2 HB1.out (Nat.le_refl _)) hb2 (Nat.le_refl _)
  have m0 : w2.cell? ⟨w.heap.size, 0, none⟩ = some (.int .i64 0) := by rw [cell_of_heap q2]; rfl
  have m1 : w2.cell? ⟨w.heap.size, 1, none⟩ = some (.int .i64 0) := by rw [cell_of_heap q2]; rfl
  have m2 : w2.cell? ⟨w.heap.size, 2, none⟩ = some (.int .i64 0) := by rw [cell_of_heap q2]; rfl
  have m3 : w2.cell? ⟨w.heap.size, 3, none⟩ = some (.int .i64 0) := by rw [cell_of_heap q2]; rfl
  have m4 : w2.cell? ⟨w.heap.size, 4, none⟩ = some (.int .i64 0) := by rw [cell_of_heap q2]; rfl
  have fz : ∀ k, w2.frozen? ⟨w.heap.size, k, none⟩ = false := fun k => frozen_of_heap q2
  have H2 := Lib.hid (And.intro q2 hB2)
  clear q2 hB2 hb2
  go_wp2_with fail
  have e1 := heap_setCell_at (k := 4) (heap_setCell_at (k := 3) (heap_setCell_at (k := 2) (heap_setCell_at (k := 1) (heap_setCell_at (k := 0) H2.out.1 (.int .i64 a)) (.int .i64 b)) (.int .i64 c)) (.int .i64 d)) (.int .i64 m)
  refine bodyPost_ret (v := Prt.v ⟨a, b, c, d, m⟩) (res_c54 rfl _ rfl (by rw [cell_of_heap e1]; rfl) (by rw [cell_of_heap e1]; rfl) (by rw [cell_of_heap e1]; rfl) (by rw [cell_of_heap e1]; rfl) (by rw [cell_of_heap e1]; rfl)) rfl ⟨rfl, ?_⟩
  exact ((((H2.out.2.setCell (Nat.le_refl _) _).setCell (Nat.le_refl _) _).setCell (Nat.le_refl _) _).setCell (Nat.le_refl _) _).setCell (Nat.le_refl _) _
end Go.Proofs.Ytnfhlbmapfoifaa
namespace Go.Proofs.Ytnfhlbmapfoifaa
open Go.RowKit
set_option linter.unusedVariables false
/-- Lists gathered by reference. -/
def OutL (w0 w : World) (v : Value) (m : List (List Int)) : Prop := Below w0.heap.size w0 w ∧ ∃ vs, w.ownsRow w0.heap.size 42 1 v m.length vs ∧ ∀ (i : Nat) (x : List Int), m[i]? = some x → ∃ ax cx, vs[i]? = some (Value.slice ax x.length cx) ∧ IsInts w0 ax x
theorem OutL.sl {w0 w : World} {v : Value} {m : List (List Int)} (h : OutL w0 w v m) : ∃ a c, v = .slice a m.length c := by
  obtain ⟨_, vs, h1, _⟩ := h
  obtain ⟨a, c, e, _⟩ := own_slice h1
  exact ⟨a, c, e⟩
theorem OutL.lists {w0 w : World} {a : Option Addr} {n c : Nat} {m : List (List Int)} (h : OutL w0 w (.slice a n c) m) : IsLists w a m := by
  obtain ⟨hb, vs, h1, h2⟩ := h
  intro i hi
  obtain ⟨g, cp, e, _, _, _, _, hc⟩ := own_cell h1 (by omega)
  cases e
  have hk' : m[i]? = some (m.getD i []) := by simp [hi]
  obtain ⟨ax, cx, k1, k2⟩ := h2 i _ hk'
  exact ⟨g, 0, rfl, ax, cx, by rw [Nat.zero_add]; exact hc i _ k1, k2.mono hb⟩
end Go.Proofs.Ytnfhlbmapfoifaa
namespace Go.Proofs.Ytnfhlbmapfoifaa
open Go.RowKit
set_option linter.unusedVariables false
def Sub (os : List (List Int)) (S : Nat) : Prop := ∀ i, S.testBit i = true → i < os.length
end Go.Proofs.Ytnfhlbmapfoifaa
namespace Go.Proofs.Ytnfhlbmapfoifaa
open Go.RowKit
set_option linter.unusedVariables false
set_option linter.unusedSimpArgs false
def IsPerm (n : Nat) (o : List Int) : Prop := o.length = n ∧ o.Nodup ∧ ∀ x ∈ o, 0 ≤ x ∧ x < n
theorem onO_mem {p : Prs} : ∀ (d : Nat) (pre o : List Int), o ∈ onO p d pre ↔ ∃ s, o = pre ++ s ∧ s.length = d ∧ (∀ x ∈ s, 0 ≤ x ∧ x < p.cards.length) ∧ s.Nodup ∧ (∀ x ∈ s, x ∉ pre) ∧ isWayB p (chainL o) = true
  | 0, pre, o => by
    rw [onO_zero]
    constructor
    · intro h
      split at h
      · rename_i hw
        simp at h
        subst h
        exact ⟨[], by simp, rfl, by simp, by simp, by simp, hw⟩
      · simp at h
    · rintro ⟨s, rfl, hs, _, _, _, hw⟩
      have : s = [] := List.eq_nil_of_length_eq_zero hs
      subst this
      rw [List.append_nil] at hw ⊢
      rw [if_pos hw]
      simp
  | d + 1, pre, o => by
    rw [onO_succ, List.mem_flatMap]
    constructor
    · rintro ⟨i, hi, h⟩
      unfold oF at h
      split at h
      · simp at h
      · rename_i hp
        obtain ⟨s, rfl, hs, h1, h2, h3, h4⟩ := (onO_mem d _ _).1 h
        have hi' : i < p.cards.length := by simpa using hi
        refine ⟨(i : Int) :: s, by simp, by simp [hs], fun x hx => ?_, ?_, fun x hx => ?_, h4⟩
        · rcases List.mem_cons.1 hx with e | e
          · subst e; omega
          · exact h1 x e
        · rw [List.nodup_cons]
          exact ⟨fun hm => h3 _ hm (by simp), h2⟩
        · rcases List.mem_cons.1 hx with e | e
          · subst e; exact hp
          · exact fun hm => h3 x e (by simp [hm])
    · rintro ⟨s, rfl, hs, h1, h2, h3, h4⟩
      cases s with
      | nil => simp at hs
      | cons x s =>
        obtain ⟨i, hi⟩ := Int.eq_ofNat_of_zero_le (h1 x (by simp)).1
        have hx := h1 x (by simp)
        refine ⟨i, by simp; omega, ?_⟩
        unfold oF
        rw [if_neg (by rw [← hi]; exact h3 x (by simp))]
        rw [List.nodup_cons] at h2
        refine (onO_mem d _ _).2 ⟨s, by simp [hi], by simpa using hs, fun y hy => h1 y (by simp [hy]), h2.2, fun y hy hm => ?_, h4⟩
        rcases List.mem_append.1 hm with hm | hm
        · exact h3 y (by simp [hy]) hm
        · have : y = x := by simpa [hi] using hm
          subst this
          exact h2.1 hy
theorem orders_iff {p : Prs} {o : List Int} : o ∈ ordersL p ↔ IsPerm p.cards.length o ∧ isWayB p (chainL o) = true := by
  unfold ordersL
  rw [onO_mem]
  constructor
  · rintro ⟨s, rfl, h1, h2, h3, _, h5⟩
    exact ⟨⟨by simpa using h1, by simpa using h3, by simpa using h2⟩, h5⟩
  · rintro ⟨⟨h1, h2, h3⟩, h4⟩
    exact ⟨o, by simp, h1, h3, h2, by simp, h4⟩
theorem perm_ne {n : Nat} {o : List Int} (h : IsPerm n o) {j k : Nat} (hj : j < n) (hk : k < n) (hne : j ≠ k) : gi o j ≠ gi o k := by
  have h1 : j < o.length := by rw [h.1]; exact hj
  have h2 : k < o.length := by rw [h.1]; exact hk
  intro e
  have e2 : o[j] = o[k] := by simpa [gi, h1, h2] using e
  exact hne ((List.getElem_inj h.2.1).1 e2)
theorem perm_rng {n : Nat} {o : List Int} (h : IsPerm n o) {k : Nat} (hk : k < n) : 0 ≤ gi o k ∧ gi o k < n := by
  have h1 : k < o.length := by rw [h.1]; exact hk
  have : gi o k = o[k] := by simp [gi, h1]
  rw [this]
  exact h.2.2 _ (List.getElem_mem h1)
theorem nodup_len : ∀ (n : Nat) (o : List Int), o.Nodup → (∀ x ∈ o, 0 ≤ x ∧ x < n) → o.length ≤ n
  | 0, o, _, h => by
    cases o with
    | nil => simp
    | cons x r => have := h x (by simp); omega
  | n + 1, o, hn, h => by
    have h1 : (o.erase (n : Int)).Nodup := hn.erase _
    have h2 := nodup_len n (o.erase (n : Int)) h1 (fun x hx => by
      have hx1 := List.mem_of_mem_erase hx
      have hx2 := h x hx1
      have hx3 : x ≠ (n : Int) := fun e => by
        subst e
        exact (List.Nodup.not_mem_erase hn) hx
      omega)
    have h3 : o.length ≤ (o.erase (n : Int)).length + 1 := by rw [List.length_erase]; split <;> omega
    omega
theorem perm_has {n : Nat} {o : List Int} (h : IsPerm n o) {c : Int} (h0 : 0 ≤ c) (hc : c < n) : ∃ k, k < n ∧ gi o k = c := by
  apply Classical.byContradiction
  intro hno
  have hnm : c ∉ o := fun hm => by
    obtain ⟨k, hk, e⟩ := List.getElem_of_mem hm
    exact hno ⟨k, by rw [← h.1]; exact hk, by simpa [gi, hk] using e⟩
  have := nodup_len n (c :: o) (List.nodup_cons.2 ⟨hnm, h.2.1⟩) (fun x hx => by
    rcases List.mem_cons.1 hx with e | e
    · subst e; exact ⟨h0, hc⟩
    · exact h.2.2 x e)
  rw [List.length_cons, h.1] at this; omega
end Go.Proofs.Ytnfhlbmapfoifaa
namespace Go.Proofs.Ytnfhlbmapfoifaa
open Go.RowKit
set_option linter.unusedVariables false
end Go.Proofs.Ytnfhlbmapfoifaa
namespace Go.Proofs.Ytnfhlbmapfoifaa
open Go.RowKit
set_option linter.unusedVariables false
end Go.Proofs.Ytnfhlbmapfoifaa
namespace Go.Proofs.Ytnfhlbmapfoifaa
open Go.RowKit
set_option linter.unusedVariables false
theorem orig_step {l : List Int} {k : Nat} (hk : k < l.length) : origN (l.take (k + 1)) = origN (l.take k) + (if gi l k = -1 then 1 else 0) := by
  have h : gi l k = l[k] := by simp [gi, hk]
  rw [List.take_succ_eq_append_getElem hk, h]
  unfold origN
  rw [List.countP_append]
  by_cases h1 : l[k] = -1 <;> simp [h1]
theorem originals_ref {l : List Int} {a : Option Addr} {cap : Nat} {w : World} (ha : IsInts w a l) (hn : l.length ≤ 16) :
    Calls Try.prog 43 #[.slice a l.length cap] w fun e w' => e = .returned (.int .i64 (origN l)) ∧ w = w' := by
  go_enter Try.func43, Try.ntmps43
  go_wp2
  go_loop [3, 4] (fun x i => ∃ k c : Nat, k ≤ l.length ∧ i = .int .i64 k ∧ x = .int .i64 c ∧ c ≤ k ∧ Hid (c = origN (l.take k))) (fun x i => l.length - (intOf i).toNat)
  case atStart => exact ⟨0, 0, by omega, rfl, rfl, by omega, by simp [Hid, origN]⟩
  case round =>
    obtain ⟨k, c, hk, rfl, rfl, hc, HC⟩ := hrel
    by_cases hlt : k < l.length
    · obtain ⟨b, off, rfl, l0⟩ := ha k hlt
      have HS := Lib.hid (orig_step hlt)
      by_cases h1 : gi l k = -1
      · rw [h1] at l0
        have HS2 : Hid (c + 1 = origN (l.take (k + 1))) := by rw [Hid, HS.out, if_pos h1, ← HC.out]
        clear HS h1
        go_wp2
        go_round
        case rel => exact ⟨k + 1, c + 1, by omega, by go_num, by go_num, by omega, HS2⟩
        case measure => simp [intOf]; omega
      · have HS2 : Hid (c = origN (l.take (k + 1))) := by rw [Hid, HS.out, if_neg h1, ← HC.out]; rfl
        clear HS
        go_wp2
        go_round
        case rel => exact ⟨k + 1, c, by omega, by go_num, rfl, by omega, HS2⟩
        case measure => simp [intOf]; omega
    · go_wp2
      go_ret
      refine ⟨ret_int ?_, rfl⟩
      rw [HC.out, List.take_of_length_le (by omega)]
end Go.Proofs.Ytnfhlbmapfoifaa
namespace Go.Proofs.Ytnfhlbmapfoifaa
open Go.RowKit
set_option linter.unusedVariables false
theorem least_orig : ∀ (l : List (List Int)) (f : List Int), origN (leastW f l) = l.foldl (fun m x => min m (origN x)) (origN f)
  | [], _ => rfl
  | x :: r, f => by
    show origN (leastW (if origN x < origN f then x else f) r) = r.foldl (fun m x => min m (origN x)) (min (origN f) (origN x))
    rw [least_orig r]
    congr 1
    split <;> omega
theorem foldl_min_le : ∀ (l : List (List Int)) (m : Nat), l.foldl (fun m x => min m (origN x)) m ≤ m
  | [], m => Nat.le_refl m
  | x :: r, m => Nat.le_trans (foldl_min_le r _) (Nat.min_le_left _ _)
end Go.Proofs.Ytnfhlbmapfoifaa
namespace Go.Proofs.Ytnfhlbmapfoifaa
open Go.RowKit
set_option linter.unusedVariables false
structure pp2F (b2 : Nat) (g : Nat) (n : Nat) (S0 : World → Prop) (S1 : Unit → World → Prop) (S2 : Unit → Unit → World → Prop) (S3 : Unit → Unit → World → Prop) (d : Nat → Bool) (x9 x10 x11 x12 x13 x14 : Value) (u1 : Unit) (u2 : Unit) (w : World) : Prop where
  q2 : d 2 = true → d 0 = true ∧ d 1 = true
  q4 : d 4 = true → d 3 = true
  q5 : d 5 = true → d 2 = true ∧ d 3 = true ∧ d 4 = true
  q6 : d 6 = true → d 0 = true ∧ d 1 = true ∧ d 2 = true ∧ d 3 = true ∧ d 4 = true ∧ d 5 = true
  f0 : d 0 = true → x9 = .slice (some ⟨g, 0, none⟩) 4 4
  f1 : d 1 = true → x10 = .int .i64 n
  f2 : d 2 = true → x11 = .slice (some ⟨g, 0, none⟩) n 4
  f3 : d 3 = true → x12 = .agg #[.int .i64 3, .int .i64 5]
  f4 : d 4 = true → x13 = .agg #[.int .i64 10, .int .i64 20]
  f5 : d 5 = true → x14 = .agg #[.slice (some ⟨g, 0, none⟩) n 4, .int .i64 3, .int .i64 5, .int .i64 10, .int .i64 20]
  st0 : d 3 = false → S0 w
  st1 : d 3 = true → d 4 = false → S1 u1 w
  st2 : d 4 = true → d 6 = false → S2 u1 u2 w
  st3 : d 6 = true → S3 u1 u2 w
noncomputable def pp2C : Code := (Try.f39.body.bind (regionAt 2)).getD .skip
set_option maxRecDepth 100000 in
set_option maxHeartbeats 4000000 in
theorem pp2 {b2 : Nat} {g : Nat} {n : Nat} {S0 : World → Prop} {S1 : Unit → World → Prop} {S2 : Unit → Unit → World → Prop} {S3 : Unit → Unit → World → Prop} {Q : Exit → Act → World → Prop} {W1 : World} (hn : n ≤ 4) (h0 : S0 W1.drew)
    (kc3 : Hid (∀ (w : World), S0 w → Calls Try.prog 31 #[.int .i64 3, .int .i64 5] w fun e w' => ∃ u1 : Unit, e = .returned (.agg #[.int .i64 3, .int .i64 5]) ∧ S1 u1 w'))
    (kc4 : Hid (∀ (u1 : Unit) (w : World), S1 u1 w → Calls Try.prog 31 #[.int .i64 10, .int .i64 20] w fun e w' => ∃ u2 : Unit, e = .returned (.agg #[.int .i64 10, .int .i64 20]) ∧ S2 u1 u2 w'))
    (kc6 : Hid (∀ (u1 : Unit) (u2 : Unit) (w : World), S2 u1 u2 w → (∃ u, w.cell? ⟨b2, 0, none⟩ = some u) ∧ w.frozen? ⟨b2, 0, none⟩ = false ∧ (∃ u, w.cell? ⟨b2, 1, none⟩ = some u) ∧ w.frozen? ⟨b2, 1, none⟩ = false ∧ (∃ u, w.cell? ⟨b2, 2, none⟩ = some u) ∧ w.frozen? ⟨b2, 2, none⟩ = false ∧ (∃ u, w.cell? ⟨b2, 3, none⟩ = some u) ∧ w.frozen? ⟨b2, 3, none⟩ = false ∧ (∃ u, w.cell? ⟨b2, 4, none⟩ = some u) ∧ w.frozen? ⟨b2, 4, none⟩ = false ∧ S3 u1 u2 (((((w.setCell ⟨b2, 0, none⟩ (.slice (some ⟨g, 0, none⟩) n 4)).setCell ⟨b2, 1, none⟩ (.int .i64 3)).setCell ⟨b2, 2, none⟩ (.int .i64 5)).setCell ⟨b2, 3, none⟩ (.int .i64 10)).setCell ⟨b2, 4, none⟩ (.int .i64 20))))
    {s1 s4 s5 s6 s7 s8 s9 s10 s11 s12 s13 s14 : Value} {dd : List Deferred}
    (hQ : ∀ (u1 : Unit) (u2 : Unit) (w' : World), S3 u1 u2 w' → Q .normal { tmps := #[.int .i64 n, s1, .pointer (some ⟨b2, 0, none⟩), .slice (some ⟨g, 0, none⟩) 4 4, s4, s5, s6, s7, s8, .slice (some ⟨g, 0, none⟩) 4 4, .int .i64 n, .slice (some ⟨g, 0, none⟩) n 4, .agg #[.int .i64 3, .int .i64 5], .agg #[.int .i64 10, .int .i64 20], .agg #[.slice (some ⟨g, 0, none⟩) n 4, .int .i64 3, .int .i64 5, .int .i64 10, .int .i64 20]], defers := dd } w') :
    Code.wpIn (wideAt none) 0 Try.prog pp2C Q { tmps := #[.int .i64 n, s1, .pointer (some ⟨b2, 0, none⟩), .slice (some ⟨g, 0, none⟩) 4 4, s4, s5, s6, s7, s8, s9, s10, s11, s12, s13, s14], defers := dd } W1 := by
  have HQ := Lib.hid hQ
  clear hQ
  conv => arg 4; whnf
  refine wpIn_region_invG mixed (by kernel_rfl) (fun d_ a_ w' => ∃ (x9 : Value) (x10 : Value) (x11 : Value) (x12 : Value) (x13 : Value) (x14 : Value) (u1 : Unit) (u2 : Unit), a_ = { tmps := #[.int .i64 n, s1, .pointer (some ⟨b2, 0, none⟩), .slice (some ⟨g, 0, none⟩) 4 4, s4, s5, s6, s7, s8, x9, x10, x11, x12, x13, x14], defers := dd } ∧ pp2F b2 g n S0 S1 S2 S3 d_ x9 x10 x11 x12 x13 x14 u1 u2 w') ?_ ?_ ?_
  · refine ⟨s9, s10, s11, s12, s13, s14, default, default, rfl, ?_⟩
    constructor <;> first | rfl | (intro _; rfl) | (intro h; cases h; done) | (intro _; exact h0) | exact h0
  · refine ⟨?_, ?_, ?_, ?_, ?_, ?_, ?_, trivial⟩
    all_goals
      rintro d_ a_ w1 K hd_ hdep ⟨x9, x10, x11, x12, x13, x14, u1, u2, rfl, F⟩ HK
      simp [Region.binds] at hdep
    · have HF : Hid (pp2F b2 g n S0 S1 S2 S3 (upd d_ 0) (.slice (some ⟨g, 0, none⟩) 4 4) x10 x11 x12 x13 x14 u1 u2 w1) := ⟨fun h => ⟨rfl, (F.q2 h).2⟩, F.q4, F.q5, fun h => ⟨rfl, (F.q6 h).2.1, (F.q6 h).2.2.1, (F.q6 h).2.2.2.1, (F.q6 h).2.2.2.2.1, (F.q6 h).2.2.2.2.2⟩, fun _ => rfl, F.f1, F.f2, F.f3, F.f4, F.f5, F.st0, F.st1, F.st2, F.st3⟩
      clear F
      go_simp
      exact HK.out _ _ ⟨_, _, _, _, _, _, _, _, rfl, HF.out⟩
    · have HF : Hid (pp2F b2 g n S0 S1 S2 S3 (upd d_ 1) x9 (.int .i64 n) x11 x12 x13 x14 u1 u2 w1) := ⟨fun h => ⟨(F.q2 h).1, rfl⟩, F.q4, F.q5, fun h => ⟨(F.q6 h).1, rfl, (F.q6 h).2.2.1, (F.q6 h).2.2.2.1, (F.q6 h).2.2.2.2.1, (F.q6 h).2.2.2.2.2⟩, F.f0, fun _ => rfl, F.f2, F.f3, F.f4, F.f5, F.st0, F.st1, F.st2, F.st3⟩
      clear F
      go_simp
      exact HK.out _ _ ⟨_, _, _, _, _, _, _, _, rfl, HF.out⟩
    · obtain rfl := F.f0 (by simp [hdep])
      obtain rfl := F.f1 (by simp [hdep])
      have HF : Hid (pp2F b2 g n S0 S1 S2 S3 (upd d_ 2) (.slice (some ⟨g, 0, none⟩) 4 4) (.int .i64 n) (.slice (some ⟨g, 0, none⟩) n 4) x12 x13 x14 u1 u2 w1) := ⟨fun _ => ⟨(show _ from (by simp [hdep] : d_ 0 = true)), (show _ from (by simp [hdep] : d_ 1 = true))⟩, F.q4, fun h => ⟨rfl, (F.q5 h).2.1, (F.q5 h).2.2⟩, fun h => ⟨(F.q6 h).1, (F.q6 h).2.1, rfl, (F.q6 h).2.2.2.1, (F.q6 h).2.2.2.2.1, (F.q6 h).2.2.2.2.2⟩, F.f0, F.f1, fun _ => rfl, F.f3, F.f4, F.f5, F.st0, F.st1, F.st2, F.st3⟩
      clear F
      have hn0 : (0 : Int) ≤ (n : Int) := by omega
      have hn4 : (n : Int) ≤ 4 := by omega
      go_simp
      exact HK.out _ _ ⟨_, _, _, _, _, _, _, _, rfl, HF.out⟩
    · have hS := F.st0  hd_
      have hc := kc3.out w1 hS
      have HF := Lib.hid F
      clear F
      go_simp
      refine ⟨trivial, rfl, wideAt_calls (hc.mono ?_)⟩
      rintro e w5 ⟨v_, rfl, hres⟩
      exact HK.out _ _ ⟨_, _, _, _, _, _, v_, u2, rfl, ⟨HF.out.q2, fun h => rfl, fun h => ⟨(HF.out.q5 h).1, rfl, (HF.out.q5 h).2.2⟩, fun h => ⟨(HF.out.q6 h).1, (HF.out.q6 h).2.1, (HF.out.q6 h).2.2.1, rfl, (HF.out.q6 h).2.2.2.2.1, (HF.out.q6 h).2.2.2.2.2⟩, HF.out.f0, HF.out.f1, HF.out.f2, fun _ => rfl, HF.out.f4, HF.out.f5, fun h => (by simp [upd] at h), fun _ _ => hres, fun h _ => (by have h2 : d_ 3 = true := (HF.out.q4 h); rw [show d_ 3 = false from hd_] at h2; cases h2), fun h => (by have h2 : d_ 3 = true := (HF.out.q6 h).2.2.2.1; rw [show d_ 3 = false from hd_] at h2; cases h2)⟩⟩
    · have hS := F.st1 (by simp [hdep] : d_ 3 = true) hd_
      have hc := kc4.out u1 w1 hS
      have HF := Lib.hid F
      clear F
      go_simp
      refine ⟨trivial, rfl, wideAt_calls (hc.mono ?_)⟩
      rintro e w5 ⟨v_, rfl, hres⟩
      exact HK.out _ _ ⟨_, _, _, _, _, _, u1, v_, rfl, ⟨HF.out.q2, fun _ => (show _ from (by simp [hdep] : d_ 3 = true)), fun h => ⟨(HF.out.q5 h).1, (HF.out.q5 h).2.1, rfl⟩, fun h => ⟨(HF.out.q6 h).1, (HF.out.q6 h).2.1, (HF.out.q6 h).2.2.1, (HF.out.q6 h).2.2.2.1, rfl, (HF.out.q6 h).2.2.2.2.2⟩, HF.out.f0, HF.out.f1, HF.out.f2, HF.out.f3, fun _ => rfl, HF.out.f5, fun h => (by have h2 : d_ 3 = false := h; rw [(by simp [hdep] : d_ 3 = true)] at h2; cases h2), fun _ h => (by simp [upd] at h), fun _ _ => hres, fun h => (by have h2 : d_ 4 = true := (HF.out.q6 h).2.2.2.2.1; rw [show d_ 4 = false from hd_] at h2; cases h2)⟩⟩
    · obtain rfl := F.f2 (by simp [hdep])
      obtain rfl := F.f3 (by simp [hdep])
      obtain rfl := F.f4 (by simp [hdep])
      have HF : Hid (pp2F b2 g n S0 S1 S2 S3 (upd d_ 5) x9 x10 (.slice (some ⟨g, 0, none⟩) n 4) (.agg #[.int .i64 3, .int .i64 5]) (.agg #[.int .i64 10, .int .i64 20]) (.agg #[.slice (some ⟨g, 0, none⟩) n 4, .int .i64 3, .int .i64 5, .int .i64 10, .int .i64 20]) u1 u2 w1) := ⟨F.q2, F.q4, fun _ => ⟨(show _ from (by simp [hdep] : d_ 2 = true)), (show _ from (by simp [hdep] : d_ 3 = true)), (show _ from (by simp [hdep] : d_ 4 = true))⟩, fun h => ⟨(F.q6 h).1, (F.q6 h).2.1, (F.q6 h).2.2.1, (F.q6 h).2.2.2.1, (F.q6 h).2.2.2.2.1, rfl⟩, F.f0, F.f1, F.f2, F.f3, F.f4, fun _ => rfl, F.st0, F.st1, F.st2, F.st3⟩
      clear F
      go_simp
      exact HK.out _ _ ⟨_, _, _, _, _, _, _, _, rfl, HF.out⟩
    · have hS := F.st2 (by simp [hdep] : d_ 4 = true) hd_
      obtain rfl := F.f5 (by simp [hdep])
      obtain ⟨⟨ku0, kcell0⟩, kfr0, ⟨ku1, kcell1⟩, kfr1, ⟨ku2, kcell2⟩, kfr2, ⟨ku3, kcell3⟩, kfr3, ⟨ku4, kcell4⟩, kfr4, hres⟩ := kc6.out u1 u2 w1 hS
      have HF : Hid (pp2F b2 g n S0 S1 S2 S3 (upd d_ 6) x9 x10 x11 x12 x13 (.agg #[.slice (some ⟨g, 0, none⟩) n 4, .int .i64 3, .int .i64 5, .int .i64 10, .int .i64 20]) u1 u2 (((((w1.setCell ⟨b2, 0, none⟩ (.slice (some ⟨g, 0, none⟩) n 4)).setCell ⟨b2, 1, none⟩ (.int .i64 3)).setCell ⟨b2, 2, none⟩ (.int .i64 5)).setCell ⟨b2, 3, none⟩ (.int .i64 10)).setCell ⟨b2, 4, none⟩ (.int .i64 20))) := ⟨F.q2, F.q4, F.q5, fun _ => ⟨(show _ from (by simp [hdep] : d_ 0 = true)), (show _ from (by simp [hdep] : d_ 1 = true)), (show _ from (by simp [hdep] : d_ 2 = true)), (show _ from (by simp [hdep] : d_ 3 = true)), (show _ from (by simp [hdep] : d_ 4 = true)), (show _ from (by simp [hdep] : d_ 5 = true))⟩, F.f0, F.f1, F.f2, F.f3, F.f4, F.f5, fun h => (by have h2 : d_ 3 = false := h; rw [(by simp [hdep] : d_ 3 = true)] at h2; cases h2), fun _ h => (by have h2 : d_ 4 = false := h; rw [(by simp [hdep] : d_ 4 = true)] at h2; cases h2), fun _ h => (by simp [upd] at h), fun _ => hres⟩
      clear F hS hres
      go_simp
      exact HK.out _ _ ⟨_, _, _, _, _, _, _, _, rfl, HF.out⟩
  · rintro d_ a_ w1 hall ⟨x9, x10, x11, x12, x13, x14, u1, u2, rfl, F⟩
    have hall' : ∀ k, k < 7 → d_ k = true := hall
    obtain rfl := F.f0 (hall' 0 (by decide))
    obtain rfl := F.f1 (hall' 1 (by decide))
    obtain rfl := F.f2 (hall' 2 (by decide))
    obtain rfl := F.f3 (hall' 3 (by decide))
    obtain rfl := F.f4 (hall' 4 (by decide))
    obtain rfl := F.f5 (hall' 5 (by decide))
    have hst := F.st3 (hall' 6 (by decide))
    exact HQ.out u1 u2 w1 hst
structure pq2F (b0 : Nat) (b1 : Nat) (S0 : Bool → Nat → World → Prop) (S1 : Bool → Nat → Unit → World → Prop) (S2 : Bool → Nat → Unit → Unit → World → Prop) (S3 : Bool → Nat → Unit → Unit → World → Prop) (d : Nat → Bool) (x3 x4 x5 x6 x7 x8 x9 : Value) (ms : Nat) (u1 : Unit) (u2 : Unit) (w : World) : Prop where
  q3 : d 3 = true → d 0 = true ∧ d 1 = true ∧ d 2 = true
  q5 : d 5 = true → d 4 = true
  q6 : d 6 = true → d 3 = true ∧ d 4 = true ∧ d 5 = true
  q7 : d 7 = true → d 0 = true ∧ d 1 = true ∧ d 2 = true ∧ d 3 = true ∧ d 4 = true ∧ d 5 = true ∧ d 6 = true
  f0 : d 0 = true → x3 = .agg #[.int .i64 100, .int .i64 110, .int .i64 500, .int .i64 530, .int .i64 0]
  f1 : d 1 = true → x4 = .agg #[.int .i64 100, .int .i64 110, .int .i64 500, .int .i64 530, .int .i64 0]
  f2 : d 2 = true → x5 = .agg #[.int .i64 100, .int .i64 110, .int .i64 500, .int .i64 530, .int .i64 0]
  f3 : d 3 = true → x6 = .slice (some ⟨ms, 0, none⟩) 3 3
  f4 : d 4 = true → x7 = .agg #[.int .i64 0, .int .i64 5]
  f5 : d 5 = true → x8 = .agg #[.int .i64 0, .int .i64 10]
  f6 : d 6 = true → x9 = .agg #[.slice (some ⟨ms, 0, none⟩) 3 3, .int .i64 0, .int .i64 5, .int .i64 0, .int .i64 10]
  st0 : d 4 = false → S0 (d 3) ms w
  st1 : d 4 = true → d 5 = false → S1 (d 3) ms u1 w
  st2 : d 5 = true → d 7 = false → S2 (d 3) ms u1 u2 w
  st3 : d 7 = true → S3 (d 3) ms u1 u2 w
  mz : d 3 = false → ms = 0
noncomputable def pq2C : Code := (Try.f40.body.bind (regionAt 2)).getD .skip
set_option maxRecDepth 100000 in
set_option maxHeartbeats 4000000 in
theorem pq2 {b0 : Nat} {b1 : Nat} {S0 : Bool → Nat → World → Prop} {S1 : Bool → Nat → Unit → World → Prop} {S2 : Bool → Nat → Unit → Unit → World → Prop} {S3 : Bool → Nat → Unit → Unit → World → Prop} {Q : Exit → Act → World → Prop} {W1 : World} (h0 : S0 false 0 W1.drew)
    (kl0 : Hid (∀ (fs : Bool) (ms : Nat) (u1 : Unit) (u2 : Unit) (w : World), (S0 fs ms w ∨ S1 fs ms u1 w ∨ S2 fs ms u1 u2 w) → w.cell? ⟨b1, 0, none⟩ = some (.int .i64 100) ∧ w.cell? ⟨b1, 1, none⟩ = some (.int .i64 110) ∧ w.cell? ⟨b1, 2, none⟩ = some (.int .i64 500) ∧ w.cell? ⟨b1, 3, none⟩ = some (.int .i64 530) ∧ w.cell? ⟨b1, 4, none⟩ = some (.int .i64 0)))
    (kl1 : Hid (∀ (fs : Bool) (ms : Nat) (u1 : Unit) (u2 : Unit) (w : World), (S0 fs ms w ∨ S1 fs ms u1 w ∨ S2 fs ms u1 u2 w) → w.cell? ⟨b1, 0, none⟩ = some (.int .i64 100) ∧ w.cell? ⟨b1, 1, none⟩ = some (.int .i64 110) ∧ w.cell? ⟨b1, 2, none⟩ = some (.int .i64 500) ∧ w.cell? ⟨b1, 3, none⟩ = some (.int .i64 530) ∧ w.cell? ⟨b1, 4, none⟩ = some (.int .i64 0)))
    (kl2 : Hid (∀ (fs : Bool) (ms : Nat) (u1 : Unit) (u2 : Unit) (w : World), (S0 fs ms w ∨ S1 fs ms u1 w ∨ S2 fs ms u1 u2 w) → w.cell? ⟨b1, 0, none⟩ = some (.int .i64 100) ∧ w.cell? ⟨b1, 1, none⟩ = some (.int .i64 110) ∧ w.cell? ⟨b1, 2, none⟩ = some (.int .i64 500) ∧ w.cell? ⟨b1, 3, none⟩ = some (.int .i64 530) ∧ w.cell? ⟨b1, 4, none⟩ = some (.int .i64 0)))
    (ks0 : Hid (∀ (w : World), S0 false 0 w → S0 true w.heap.size (w.alloc (.cells #[.int .i64 100, .int .i64 110, .int .i64 500, .int .i64 530, .int .i64 0, .int .i64 100, .int .i64 110, .int .i64 500, .int .i64 530, .int .i64 0, .int .i64 100, .int .i64 110, .int .i64 500, .int .i64 530, .int .i64 0] 54))))
    (ks1 : Hid (∀ (u1 : Unit) (w : World), S1 false 0 u1 w → S1 true w.heap.size u1 (w.alloc (.cells #[.int .i64 100, .int .i64 110, .int .i64 500, .int .i64 530, .int .i64 0, .int .i64 100, .int .i64 110, .int .i64 500, .int .i64 530, .int .i64 0, .int .i64 100, .int .i64 110, .int .i64 500, .int .i64 530, .int .i64 0] 54))))
    (ks2 : Hid (∀ (u1 : Unit) (u2 : Unit) (w : World), S2 false 0 u1 u2 w → S2 true w.heap.size u1 u2 (w.alloc (.cells #[.int .i64 100, .int .i64 110, .int .i64 500, .int .i64 530, .int .i64 0, .int .i64 100, .int .i64 110, .int .i64 500, .int .i64 530, .int .i64 0, .int .i64 100, .int .i64 110, .int .i64 500, .int .i64 530, .int .i64 0] 54))))
    (kc4 : Hid (∀ (fs : Bool) (ms : Nat) (w : World), S0 fs ms w → Calls Try.prog 31 #[.int .i64 0, .int .i64 5] w fun e w' => ∃ u1 : Unit, e = .returned (.agg #[.int .i64 0, .int .i64 5]) ∧ S1 fs ms u1 w'))
    (kc5 : Hid (∀ (fs : Bool) (ms : Nat) (u1 : Unit) (w : World), S1 fs ms u1 w → Calls Try.prog 31 #[.int .i64 0, .int .i64 10] w fun e w' => ∃ u2 : Unit, e = .returned (.agg #[.int .i64 0, .int .i64 10]) ∧ S2 fs ms u1 u2 w'))
    (kc7 : Hid (∀ (ms : Nat) (u1 : Unit) (u2 : Unit) (w : World), S2 true ms u1 u2 w → (∃ u, w.cell? ⟨b0, 0, none⟩ = some u) ∧ w.frozen? ⟨b0, 0, none⟩ = false ∧ (∃ u, w.cell? ⟨b0, 1, none⟩ = some u) ∧ w.frozen? ⟨b0, 1, none⟩ = false ∧ (∃ u, w.cell? ⟨b0, 2, none⟩ = some u) ∧ w.frozen? ⟨b0, 2, none⟩ = false ∧ (∃ u, w.cell? ⟨b0, 3, none⟩ = some u) ∧ w.frozen? ⟨b0, 3, none⟩ = false ∧ (∃ u, w.cell? ⟨b0, 4, none⟩ = some u) ∧ w.frozen? ⟨b0, 4, none⟩ = false ∧ S3 true ms u1 u2 (((((w.setCell ⟨b0, 0, none⟩ (.slice (some ⟨ms, 0, none⟩) 3 3)).setCell ⟨b0, 1, none⟩ (.int .i64 0)).setCell ⟨b0, 2, none⟩ (.int .i64 5)).setCell ⟨b0, 3, none⟩ (.int .i64 0)).setCell ⟨b0, 4, none⟩ (.int .i64 10))))
    {s2 s3 s4 s5 s6 s7 s8 s9 : Value} {dd : List Deferred}
    (hQ : ∀ (ms : Nat) (u1 : Unit) (u2 : Unit) (w' : World), S3 true ms u1 u2 w' → Q .normal { tmps := #[.pointer (some ⟨b0, 0, none⟩), .pointer (some ⟨b1, 0, none⟩), s2, .agg #[.int .i64 100, .int .i64 110, .int .i64 500, .int .i64 530, .int .i64 0], .agg #[.int .i64 100, .int .i64 110, .int .i64 500, .int .i64 530, .int .i64 0], .agg #[.int .i64 100, .int .i64 110, .int .i64 500, .int .i64 530, .int .i64 0], .slice (some ⟨ms, 0, none⟩) 3 3, .agg #[.int .i64 0, .int .i64 5], .agg #[.int .i64 0, .int .i64 10], .agg #[.slice (some ⟨ms, 0, none⟩) 3 3, .int .i64 0, .int .i64 5, .int .i64 0, .int .i64 10]], defers := dd } w') :
    Code.wpIn (wideAt none) 0 Try.prog pq2C Q { tmps := #[.pointer (some ⟨b0, 0, none⟩), .pointer (some ⟨b1, 0, none⟩), s2, s3, s4, s5, s6, s7, s8, s9], defers := dd } W1 := by
  have HQ := Lib.hid hQ
  clear hQ
  conv => arg 4; whnf
  refine wpIn_region_invG mixed (by kernel_rfl) (fun d_ a_ w' => ∃ (x3 : Value) (x4 : Value) (x5 : Value) (x6 : Value) (x7 : Value) (x8 : Value) (x9 : Value) (ms : Nat) (u1 : Unit) (u2 : Unit), a_ = { tmps := #[.pointer (some ⟨b0, 0, none⟩), .pointer (some ⟨b1, 0, none⟩), s2, x3, x4, x5, x6, x7, x8, x9], defers := dd } ∧ pq2F b0 b1 S0 S1 S2 S3 d_ x3 x4 x5 x6 x7 x8 x9 ms u1 u2 w') ?_ ?_ ?_
  · refine ⟨s3, s4, s5, s6, s7, s8, s9, 0, default, default, rfl, ?_⟩
    constructor <;> first | rfl | (intro _; rfl) | (intro h; cases h; done) | (intro _; exact h0) | exact h0
  · refine ⟨?_, ?_, ?_, ?_, ?_, ?_, ?_, ?_, trivial⟩
    all_goals
      rintro d_ a_ w1 K hd_ hdep ⟨x3, x4, x5, x6, x7, x8, x9, ms, u1, u2, rfl, F⟩ HK
      simp [Region.binds] at hdep
    · have hst : S0 (d_ 3) ms w1 ∨ S1 (d_ 3) ms u1 w1 ∨ S2 (d_ 3) ms u1 u2 w1 := by
        cases e1 : d_ 4 with
        | false => exact .inl ((F.st0 e1))
        | true =>
          cases e2 : d_ 5 with
          | false => exact .inr (.inl ((F.st1 e1 e2)))
          | true =>
            have n_ : d_ 7 = false := by
              cases e_ : d_ 7 with
              | false => rfl
              | true => have h2 := (F.q7 e_).1; rw [show d_ 0 = false from hd_] at h2; cases h2
            exact .inr (.inr ((F.st2 e2 n_)))
      have kk := kl0.out (d_ 3) ms u1 u2 w1 hst
      obtain ⟨kk0, kk1, kk2, kk3, kk4⟩ := kk
      clear hst
      have HF : Hid (pq2F b0 b1 S0 S1 S2 S3 (upd d_ 0) (.agg #[.int .i64 100, .int .i64 110, .int .i64 500, .int .i64 530, .int .i64 0]) x4 x5 x6 x7 x8 x9 ms u1 u2 w1) := ⟨fun h => ⟨rfl, (F.q3 h).2.1, (F.q3 h).2.2⟩, F.q5, F.q6, fun h => ⟨rfl, (F.q7 h).2.1, (F.q7 h).2.2.1, (F.q7 h).2.2.2.1, (F.q7 h).2.2.2.2.1, (F.q7 h).2.2.2.2.2.1, (F.q7 h).2.2.2.2.2.2⟩, fun _ => rfl, F.f1, F.f2, F.f3, F.f4, F.f5, F.f6, F.st0, F.st1, F.st2, F.st3, F.mz⟩
      clear F
      go_simp
      exact HK.out _ _ ⟨_, _, _, _, _, _, _, _, _, _, rfl, HF.out⟩
    · have hst : S0 (d_ 3) ms w1 ∨ S1 (d_ 3) ms u1 w1 ∨ S2 (d_ 3) ms u1 u2 w1 := by
        cases e1 : d_ 4 with
        | false => exact .inl ((F.st0 e1))
        | true =>
          cases e2 : d_ 5 with
          | false => exact .inr (.inl ((F.st1 e1 e2)))
          | true =>
            have n_ : d_ 7 = false := by
              cases e_ : d_ 7 with
              | false => rfl
              | true => have h2 := (F.q7 e_).2.1; rw [show d_ 1 = false from hd_] at h2; cases h2
            exact .inr (.inr ((F.st2 e2 n_)))
      have kk := kl1.out (d_ 3) ms u1 u2 w1 hst
      obtain ⟨kk0, kk1, kk2, kk3, kk4⟩ := kk
      clear hst
      have HF : Hid (pq2F b0 b1 S0 S1 S2 S3 (upd d_ 1) x3 (.agg #[.int .i64 100, .int .i64 110, .int .i64 500, .int .i64 530, .int .i64 0]) x5 x6 x7 x8 x9 ms u1 u2 w1) := ⟨fun h => ⟨(F.q3 h).1, rfl, (F.q3 h).2.2⟩, F.q5, F.q6, fun h => ⟨(F.q7 h).1, rfl, (F.q7 h).2.2.1, (F.q7 h).2.2.2.1, (F.q7 h).2.2.2.2.1, (F.q7 h).2.2.2.2.2.1, (F.q7 h).2.2.2.2.2.2⟩, F.f0, fun _ => rfl, F.f2, F.f3, F.f4, F.f5, F.f6, F.st0, F.st1, F.st2, F.st3, F.mz⟩
      clear F
      go_simp
      exact HK.out _ _ ⟨_, _, _, _, _, _, _, _, _, _, rfl, HF.out⟩
    · have hst : S0 (d_ 3) ms w1 ∨ S1 (d_ 3) ms u1 w1 ∨ S2 (d_ 3) ms u1 u2 w1 := by
        cases e1 : d_ 4 with
        | false => exact .inl ((F.st0 e1))
        | true =>
          cases e2 : d_ 5 with
          | false => exact .inr (.inl ((F.st1 e1 e2)))
          | true =>
            have n_ : d_ 7 = false := by
              cases e_ : d_ 7 with
              | false => rfl
              | true => have h2 := (F.q7 e_).2.2.1; rw [show d_ 2 = false from hd_] at h2; cases h2
            exact .inr (.inr ((F.st2 e2 n_)))
      have kk := kl2.out (d_ 3) ms u1 u2 w1 hst
      obtain ⟨kk0, kk1, kk2, kk3, kk4⟩ := kk
      clear hst
      have HF : Hid (pq2F b0 b1 S0 S1 S2 S3 (upd d_ 2) x3 x4 (.agg #[.int .i64 100, .int .i64 110, .int .i64 500, .int .i64 530, .int .i64 0]) x6 x7 x8 x9 ms u1 u2 w1) := ⟨fun h => ⟨(F.q3 h).1, (F.q3 h).2.1, rfl⟩, F.q5, F.q6, fun h => ⟨(F.q7 h).1, (F.q7 h).2.1, rfl, (F.q7 h).2.2.2.1, (F.q7 h).2.2.2.2.1, (F.q7 h).2.2.2.2.2.1, (F.q7 h).2.2.2.2.2.2⟩, F.f0, F.f1, fun _ => rfl, F.f3, F.f4, F.f5, F.f6, F.st0, F.st1, F.st2, F.st3, F.mz⟩
      clear F
      go_simp
      exact HK.out _ _ ⟨_, _, _, _, _, _, _, _, _, _, rfl, HF.out⟩
    · obtain rfl := F.f0 (by simp [hdep])
      obtain rfl := F.f1 (by simp [hdep])
      obtain rfl := F.f2 (by simp [hdep])
      have HF : Hid (pq2F b0 b1 S0 S1 S2 S3 (upd d_ 3) (.agg #[.int .i64 100, .int .i64 110, .int .i64 500, .int .i64 530, .int .i64 0]) (.agg #[.int .i64 100, .int .i64 110, .int .i64 500, .int .i64 530, .int .i64 0]) (.agg #[.int .i64 100, .int .i64 110, .int .i64 500, .int .i64 530, .int .i64 0]) (.slice (some ⟨w1.heap.size, 0, none⟩) 3 3) x7 x8 x9 w1.heap.size u1 u2 (w1.alloc (.cells #[.int .i64 100, .int .i64 110, .int .i64 500, .int .i64 530, .int .i64 0, .int .i64 100, .int .i64 110, .int .i64 500, .int .i64 530, .int .i64 0, .int .i64 100, .int .i64 110, .int .i64 500, .int .i64 530, .int .i64 0] 54))) := ⟨fun _ => ⟨(show _ from (by simp [hdep] : d_ 0 = true)), (show _ from (by simp [hdep] : d_ 1 = true)), (show _ from (by simp [hdep] : d_ 2 = true))⟩, F.q5, fun h => ⟨rfl, (F.q6 h).2.1, (F.q6 h).2.2⟩, fun h => ⟨(F.q7 h).1, (F.q7 h).2.1, (F.q7 h).2.2.1, rfl, (F.q7 h).2.2.2.2.1, (F.q7 h).2.2.2.2.2.1, (F.q7 h).2.2.2.2.2.2⟩, F.f0, F.f1, F.f2, fun _ => rfl, F.f4, F.f5, fun h => (by have h2 : d_ 3 = true := (F.q6 h).1; rw [show d_ 3 = false from hd_] at h2; cases h2), fun b => ks0.out w1 (by have h := F.st0 b; rw [show d_ 3 = false from hd_, F.mz hd_] at h; exact h), fun a b => ks1.out u1 w1 (by have h := F.st1 a b; rw [show d_ 3 = false from hd_, F.mz hd_] at h; exact h), fun a b => ks2.out u1 u2 w1 (by have h := F.st2 a b; rw [show d_ 3 = false from hd_, F.mz hd_] at h; exact h), fun a => (by have h2 : d_ 3 = true := (F.q7 a).2.2.2.1; rw [show d_ 3 = false from hd_] at h2; cases h2), fun h => (by simp [upd] at h)⟩
      clear F
      go_simp
      exact HK.out _ _ ⟨_, _, _, _, _, _, _, _, _, _, rfl, HF.out⟩
    · have hS := F.st0  hd_
      have hc := kc4.out (d_ 3) ms w1 hS
      have HF := Lib.hid F
      clear F
      go_simp
      refine ⟨trivial, rfl, wideAt_calls (hc.mono ?_)⟩
      rintro e w5 ⟨v_, rfl, hres⟩
      exact HK.out _ _ ⟨_, _, _, _, _, _, _, ms, v_, u2, rfl, ⟨HF.out.q3, fun h => rfl, fun h => ⟨(HF.out.q6 h).1, rfl, (HF.out.q6 h).2.2⟩, fun h => ⟨(HF.out.q7 h).1, (HF.out.q7 h).2.1, (HF.out.q7 h).2.2.1, (HF.out.q7 h).2.2.2.1, rfl, (HF.out.q7 h).2.2.2.2.2.1, (HF.out.q7 h).2.2.2.2.2.2⟩, HF.out.f0, HF.out.f1, HF.out.f2, HF.out.f3, fun _ => rfl, HF.out.f5, HF.out.f6, fun h => (by simp [upd] at h), fun _ _ => hres, fun h _ => (by have h2 : d_ 4 = true := (HF.out.q5 h); rw [show d_ 4 = false from hd_] at h2; cases h2), fun h => (by have h2 : d_ 4 = true := (HF.out.q7 h).2.2.2.2.1; rw [show d_ 4 = false from hd_] at h2; cases h2), HF.out.mz⟩⟩
    · have hS := F.st1 (by simp [hdep] : d_ 4 = true) hd_
      have hc := kc5.out (d_ 3) ms u1 w1 hS
      have HF := Lib.hid F
      clear F
      go_simp
      refine ⟨trivial, rfl, wideAt_calls (hc.mono ?_)⟩
      rintro e w5 ⟨v_, rfl, hres⟩
      exact HK.out _ _ ⟨_, _, _, _, _, _, _, ms, u1, v_, rfl, ⟨HF.out.q3, fun _ => (show _ from (by simp [hdep] : d_ 4 = true)), fun h => ⟨(HF.out.q6 h).1, (HF.out.q6 h).2.1, rfl⟩, fun h => ⟨(HF.out.q7 h).1, (HF.out.q7 h).2.1, (HF.out.q7 h).2.2.1, (HF.out.q7 h).2.2.2.1, (HF.out.q7 h).2.2.2.2.1, rfl, (HF.out.q7 h).2.2.2.2.2.2⟩, HF.out.f0, HF.out.f1, HF.out.f2, HF.out.f3, HF.out.f4, fun _ => rfl, HF.out.f6, fun h => (by have h2 : d_ 4 = false := h; rw [(by simp [hdep] : d_ 4 = true)] at h2; cases h2), fun _ h => (by simp [upd] at h), fun _ _ => hres, fun h => (by have h2 : d_ 5 = true := (HF.out.q7 h).2.2.2.2.2.1; rw [show d_ 5 = false from hd_] at h2; cases h2), HF.out.mz⟩⟩
    · obtain rfl := F.f3 (by simp [hdep])
      obtain rfl := F.f4 (by simp [hdep])
      obtain rfl := F.f5 (by simp [hdep])
      have HF : Hid (pq2F b0 b1 S0 S1 S2 S3 (upd d_ 6) x3 x4 x5 (.slice (some ⟨ms, 0, none⟩) 3 3) (.agg #[.int .i64 0, .int .i64 5]) (.agg #[.int .i64 0, .int .i64 10]) (.agg #[.slice (some ⟨ms, 0, none⟩) 3 3, .int .i64 0, .int .i64 5, .int .i64 0, .int .i64 10]) ms u1 u2 w1) := ⟨F.q3, F.q5, fun _ => ⟨(show _ from (by simp [hdep] : d_ 3 = true)), (show _ from (by simp [hdep] : d_ 4 = true)), (show _ from (by simp [hdep] : d_ 5 = true))⟩, fun h => ⟨(F.q7 h).1, (F.q7 h).2.1, (F.q7 h).2.2.1, (F.q7 h).2.2.2.1, (F.q7 h).2.2.2.2.1, (F.q7 h).2.2.2.2.2.1, rfl⟩, F.f0, F.f1, F.f2, F.f3, F.f4, F.f5, fun _ => rfl, F.st0, F.st1, F.st2, F.st3, F.mz⟩
      clear F
      go_simp
      exact HK.out _ _ ⟨_, _, _, _, _, _, _, _, _, _, rfl, HF.out⟩
    · have hS := F.st2 (by simp [hdep] : d_ 5 = true) hd_
      rw [show d_ 3 = true from (by simp [hdep] : d_ 3 = true)] at hS
      obtain rfl := F.f6 (by simp [hdep])
      obtain ⟨⟨ku0, kcell0⟩, kfr0, ⟨ku1, kcell1⟩, kfr1, ⟨ku2, kcell2⟩, kfr2, ⟨ku3, kcell3⟩, kfr3, ⟨ku4, kcell4⟩, kfr4, hres⟩ := kc7.out ms u1 u2 w1 hS
      have HF : Hid (pq2F b0 b1 S0 S1 S2 S3 (upd d_ 7) x3 x4 x5 x6 x7 x8 (.agg #[.slice (some ⟨ms, 0, none⟩) 3 3, .int .i64 0, .int .i64 5, .int .i64 0, .int .i64 10]) ms u1 u2 (((((w1.setCell ⟨b0, 0, none⟩ (.slice (some ⟨ms, 0, none⟩) 3 3)).setCell ⟨b0, 1, none⟩ (.int .i64 0)).setCell ⟨b0, 2, none⟩ (.int .i64 5)).setCell ⟨b0, 3, none⟩ (.int .i64 0)).setCell ⟨b0, 4, none⟩ (.int .i64 10))) := ⟨F.q3, F.q5, F.q6, fun _ => ⟨(show _ from (by simp [hdep] : d_ 0 = true)), (show _ from (by simp [hdep] : d_ 1 = true)), (show _ from (by simp [hdep] : d_ 2 = true)), (show _ from (by simp [hdep] : d_ 3 = true)), (show _ from (by simp [hdep] : d_ 4 = true)), (show _ from (by simp [hdep] : d_ 5 = true)), (show _ from (by simp [hdep] : d_ 6 = true))⟩, F.f0, F.f1, F.f2, F.f3, F.f4, F.f5, F.f6, fun h => (by have h2 : d_ 4 = false := h; rw [(by simp [hdep] : d_ 4 = true)] at h2; cases h2), fun _ h => (by have h2 : d_ 5 = false := h; rw [(by simp [hdep] : d_ 5 = true)] at h2; cases h2), fun _ h => (by simp [upd] at h), fun _ => (by rw [show upd d_ 7 3 = true from (by simp [hdep] : d_ 3 = true)]; exact hres), F.mz⟩
      clear F hS hres
      go_simp
      exact HK.out _ _ ⟨_, _, _, _, _, _, _, _, _, _, rfl, HF.out⟩
  · rintro d_ a_ w1 hall ⟨x3, x4, x5, x6, x7, x8, x9, ms, u1, u2, rfl, F⟩
    have hall' : ∀ k, k < 8 → d_ k = true := hall
    obtain rfl := F.f0 (hall' 0 (by decide))
    obtain rfl := F.f1 (hall' 1 (by decide))
    obtain rfl := F.f2 (hall' 2 (by decide))
    obtain rfl := F.f3 (hall' 3 (by decide))
    obtain rfl := F.f4 (hall' 4 (by decide))
    obtain rfl := F.f5 (hall' 5 (by decide))
    obtain rfl := F.f6 (hall' 6 (by decide))
    have hst := F.st3 (hall' 7 (by decide))
    rw [show d_ 3 = true from hall' 3 (by decide)] at hst
    exact HQ.out ms u1 u2 w1 hst
end Go.Proofs.Ytnfhlbmapfoifaa
namespace Go.Proofs.Ytnfhlbmapfoifaa
open Go.RowKit
set_option linter.unusedVariables false
theorem res_c26 {fn : Func} {p : Tmp} (h : fn.results = #[.cell p 26]) (tmps : Array Value) {w : World} {a : Nat} {x y z u v : Value} (hp : tmps.getD p undef = .pointer (some ⟨a, 0, none⟩)) (hx : w.cell? ⟨a, 0, none⟩ = some x) (hy : w.cell? ⟨a, 1, none⟩ = some y) (hz : w.cell? ⟨a, 2, none⟩ = some z) (hu : w.cell? ⟨a, 3, none⟩ = some u) (hv : w.cell? ⟨a, 4, none⟩ = some v) :
    (results fn tmps).run Try.prog w = .ok (.agg #[x, y, z, u, v]) w := by
  have hp' : tmps[p]?.getD undef = .pointer (some ⟨a, 0, none⟩) := by simpa using hp
  simp [results, h, hp', hx, hy, hz, hu, hv, go_sem]
theorem prts_take {w : World} {a : Option Addr} {l : List Prt} (h : IsPrts w a l) (k : Nat) : IsPrts w a (l.take k) := fun i hi => by
  have h1 : i < l.length ∧ i < k := by simp at hi; omega
  obtain ⟨b, off, e, h0⟩ := h i h1.1
  have e2 : gp (l.take k) i = gp l i := by simp [gp, h1.2]
  exact ⟨b, off, e, by rw [e2]; exact h0⟩
abbrev zero5 : Array Value := #[.slice none 0 0, .int .i64 0, .int .i64 0, .int .i64 0, .int .i64 0]
abbrev twenty : Array Value := #[.int .i64 100, .int .i64 101, .int .i64 500, .int .i64 505, .int .i64 0, .int .i64 96, .int .i64 97, .int .i64 485, .int .i64 490, .int .i64 1, .int .i64 92, .int .i64 93, .int .i64 470, .int .i64 476, .int .i64 3, .int .i64 95, .int .i64 98, .int .i64 480, .int .i64 492, .int .i64 4]
theorem prts_twenty {w : World} {g : Nat} (h : w.heap[g]? = some (.cells twenty 54 (0, 0))) : IsPrts w (some ⟨g, 0, none⟩) (pileP 4).cards := fun i hi => by
  have : i = 0 ∨ i = 1 ∨ i = 2 ∨ i = 3 := by simp [pileP] at hi; omega
  rcases this with rfl | rfl | rfl | rfl
  all_goals exact ⟨g, 0, rfl, by rw [cell_of_heap h]; rfl, by rw [cell_of_heap h]; rfl, by rw [cell_of_heap h]; rfl, by rw [cell_of_heap h]; rfl, by rw [cell_of_heap h]; rfl⟩
set_option maxRecDepth 100000 in
set_option maxHeartbeats 2000000 in
theorem pileP_any (n : Nat) (hn : n ≤ 4) (w : World) : Calls Try.prog 39 #[.int .i64 n] w fun e w' => ∃ g, e = .returned (.agg #[.slice (some ⟨g, 0, none⟩) n 4, .int .i64 3, .int .i64 5, .int .i64 10, .int .i64 20]) ∧ IsPrts w' (some ⟨g, 0, none⟩) (pileP n).cards ∧ Below w.heap.size w w' := by
  have q0 := World.alloc_heap_new w (.cells zero5 26)
  have hb0 : Below w.heap.size w (w.alloc (.cells zero5 26)) := (Below.refl _ w).alloc (Nat.le_refl _) _
  have hz0 : (w.alloc (.cells zero5 26)).heap.size = w.heap.size + 1 := by simp
  have H0 := Lib.hid (And.intro q0 (And.intro hb0 hz0))
  clear q0 hb0 hz0
  go_enter Try.func39, Try.ntmps39
  go_wp2_with fail
  refine (card_any _ _ _ _ _ _).mono ?_
  rintro e w1 ⟨rfl, hb1⟩
  have HB1 := Lib.hid hb1
  clear hb1
  go_wp2_with fail
  refine (card_any _ _ _ _ _ _).mono ?_
  rintro e w2 ⟨rfl, hb2⟩
  have HB2 := Lib.hid (HB1.out.trans (hb2.mono HB1.out.size))
  clear hb2
  go_wp2_with fail
  refine (card_any _ _ _ _ _ _).mono ?_
  rintro e w3 ⟨rfl, hb3⟩
  have HB3 := Lib.hid (HB2.out.trans (hb3.mono HB2.out.size))
  clear hb3
  go_wp2_with fail
  refine (card_any _ _ _ _ _ _).mono ?_
  rintro e w4 ⟨rfl, hb4⟩
  have HB4 := Lib.hid (HB3.out.trans (hb4.mono HB3.out.size))
  clear hb4
  go_wp2_with fail
  have q5 := World.alloc_heap_new w4 (.cells twenty 54)
  have hb5 : Below w4.heap.size w4 (w4.alloc (.cells twenty 54)) := (Below.refl _ w4).alloc (Nat.le_refl _) _
  have hb05 := HB4.out.trans (hb5.mono HB4.out.size)
  have z04 : w.heap.size + 1 ≤ w4.heap.size := by have := HB4.out.size; simp at this; omega
  revert q5 hb5 hb05
  generalize (w4.alloc (.cells twenty 54)) = w5
  intro q5 hb5 hb05
  obtain ⟨q0, hb0, hz0⟩ := H0.out
  have q0' := (hb05.block _ (heap_lt q0)).trans q0
  have hbw : Below w.heap.size w w5 := hb0.trans (hb05.mono hb0.size)
  refine wpIn_wide.1 (pp2 (b2 := w.heap.size) (g := w4.heap.size) (n := n) (S0 := fun w' => Below w5.heap.size w5 w') (S1 := fun _ w' => Below w5.heap.size w5 w') (S2 := fun _ _ w' => Below w5.heap.size w5 w')
    (S3 := fun _ _ w' => Below w.heap.size w w' ∧ w'.heap[w.heap.size]? = some (.cells #[.slice (some ⟨w4.heap.size, 0, none⟩) n 4, .int .i64 3, .int .i64 5, .int .i64 10, .int .i64 20] 26 (0, 0)) ∧ w'.heap[w4.heap.size]? = some (.cells twenty 54 (0, 0))) hn ?a0 ?a3 ?a4 ?a6 ?aQ)
  case a0 => exact (Below.refl _ _).drew
  case a3 =>
    intro w' h
    refine (span_any 3 5 w').mono ?_
    rintro e w6 ⟨rfl, hb6⟩
    exact ⟨(), rfl, h.trans (hb6.mono h.size)⟩
  case a4 =>
    intro u w' h
    refine (span_any 10 20 w').mono ?_
    rintro e w6 ⟨rfl, hb6⟩
    exact ⟨(), rfl, h.trans (hb6.mono h.size)⟩
  case a6 =>
    intro u u' w' h
    have e := (h.block _ (heap_lt q0')).trans q0'
    have e5 := (h.block _ (heap_lt q5)).trans q5
    have hne : w4.heap.size ≠ w.heap.size := by omega
    refine ⟨⟨_, by rw [cell_of_heap e]; rfl⟩, frozen_of_heap e, ⟨_, by rw [cell_of_heap e]; rfl⟩, frozen_of_heap e, ⟨_, by rw [cell_of_heap e]; rfl⟩, frozen_of_heap e, ⟨_, by rw [cell_of_heap e]; rfl⟩, frozen_of_heap e, ⟨_, by rw [cell_of_heap e]; rfl⟩, frozen_of_heap e, ?_, ?_, ?_⟩
    · exact (((((hbw.trans (h.mono hbw.size)).setCell (Nat.le_refl _) _).setCell (Nat.le_refl _) _).setCell (Nat.le_refl _) _).setCell (Nat.le_refl _) _).setCell (Nat.le_refl _) _
    · exact heap_setCell_at (k := 4) (heap_setCell_at (k := 3) (heap_setCell_at (k := 2) (heap_setCell_at (k := 1) (heap_setCell_at (k := 0) e _) _) _) _) _
    · rw [Below.heap_setCell _ _ _ _ hne, Below.heap_setCell _ _ _ _ hne, Below.heap_setCell _ _ _ _ hne, Below.heap_setCell _ _ _ _ hne, Below.heap_setCell _ _ _ _ hne]
      exact e5
  case aQ =>
    rintro u u' w6 ⟨hb6, e6, e7⟩
    have H6 := Lib.hid (And.intro hb6 (And.intro e6 e7))
    clear hb6 e6 e7
    go_wp2_with fail
    obtain ⟨hb6, e6, e7⟩ := H6.out
    refine bodyPost_ret (res_c26 (x := .slice (some ⟨w4.heap.size, 0, none⟩) n 4) (y := .int .i64 3) (z := .int .i64 5) (u := .int .i64 10) (v := .int .i64 20) rfl _ rfl (by rw [cell_of_heap e6]; rfl) (by rw [cell_of_heap e6]; rfl) (by rw [cell_of_heap e6]; rfl) (by rw [cell_of_heap e6]; rfl) (by rw [cell_of_heap e6]; rfl)) rfl ⟨w4.heap.size, rfl, ?_, hb6⟩
    exact prts_take (prts_twenty e7) n
abbrev q5A : Array Value := #[.int .i64 100, .int .i64 110, .int .i64 500, .int .i64 530, .int .i64 0]
abbrev q15A : Array Value := #[.int .i64 100, .int .i64 110, .int .i64 500, .int .i64 530, .int .i64 0, .int .i64 100, .int .i64 110, .int .i64 500, .int .i64 530, .int .i64 0, .int .i64 100, .int .i64 110, .int .i64 500, .int .i64 530, .int .i64 0]
theorem prts_fifteen {w : World} {g : Nat} (h : w.heap[g]? = some (.cells q15A 54 (0, 0))) : IsPrts w (some ⟨g, 0, none⟩) pileQ.cards := fun i hi => by
  have : i = 0 ∨ i = 1 ∨ i = 2 := by simp [pileQ] at hi; omega
  rcases this with rfl | rfl | rfl
  all_goals exact ⟨g, 0, rfl, by rw [cell_of_heap h]; rfl, by rw [cell_of_heap h]; rfl, by rw [cell_of_heap h]; rfl, by rw [cell_of_heap h]; rfl, by rw [cell_of_heap h]; rfl⟩
set_option maxRecDepth 100000 in
set_option maxHeartbeats 2000000 in
theorem pileQ_any (w : World) : Calls Try.prog 40 #[] w fun e w' => ∃ g, e = .returned (.agg #[.slice (some ⟨g, 0, none⟩) 3 3, .int .i64 0, .int .i64 5, .int .i64 0, .int .i64 10]) ∧ IsPrts w' (some ⟨g, 0, none⟩) pileQ.cards ∧ Below w.heap.size w w' := by
  have q0 := World.alloc_heap_new w (.cells zero5 26)
  have hb0 : Below w.heap.size w (w.alloc (.cells zero5 26)) := (Below.refl _ w).alloc (Nat.le_refl _) _
  have hz0 : (w.alloc (.cells zero5 26)).heap.size = w.heap.size + 1 := by simp
  have H0 := Lib.hid (And.intro q0 (And.intro hb0 hz0))
  clear q0 hb0 hz0
  go_enter Try.func40, Try.ntmps40
  go_wp2_with fail
  refine (card_any _ _ _ _ _ _).mono ?_
  rintro e w1 ⟨rfl, hb1⟩
  have HB1 := Lib.hid hb1
  clear hb1
  go_wp2_with fail
  have q5 := World.alloc_heap_new w1 (.cells q5A 54)
  have hb5 : Below w1.heap.size w1 (w1.alloc (.cells q5A 54)) := (Below.refl _ w1).alloc (Nat.le_refl _) _
  have hb05 := HB1.out.trans (hb5.mono HB1.out.size)
  have z04 : w.heap.size + 1 ≤ w1.heap.size := by have := HB1.out.size; simp at this; omega
  revert q5 hb5 hb05
  generalize (w1.alloc (.cells q5A 54)) = w5
  intro q5 hb5 hb05
  obtain ⟨q0, hb0, hz0⟩ := H0.out
  have q0' := (hb05.block _ (heap_lt q0)).trans q0
  have hbw : Below w.heap.size w w5 := hb0.trans (hb05.mono hb0.size)
  have z5 : w1.heap.size + 1 ≤ w5.heap.size := heap_lt q5
  refine wpIn_wide.1 (pq2 (b0 := w.heap.size) (b1 := w1.heap.size) (S0 := fun f ms w' => Below w5.heap.size w5 w' ∧ (f = true → w5.heap.size ≤ ms ∧ w'.heap[ms]? = some (.cells q15A 54 (0, 0)))) (S1 := fun f ms _ w' => Below w5.heap.size w5 w' ∧ (f = true → w5.heap.size ≤ ms ∧ w'.heap[ms]? = some (.cells q15A 54 (0, 0)))) (S2 := fun f ms _ _ w' => Below w5.heap.size w5 w' ∧ (f = true → w5.heap.size ≤ ms ∧ w'.heap[ms]? = some (.cells q15A 54 (0, 0))))
    (S3 := fun f ms _ _ w' => Below w.heap.size w w' ∧ w'.heap[w.heap.size]? = some (.cells #[.slice (some ⟨ms, 0, none⟩) 3 3, .int .i64 0, .int .i64 5, .int .i64 0, .int .i64 10] 26 (0, 0)) ∧ w'.heap[ms]? = some (.cells q15A 54 (0, 0))) ?a0 ?l0 ?l1 ?l2 ?s0 ?s1 ?s2 ?a4 ?a5 ?a7 ?aQ)
  case a0 => exact ⟨(Below.refl _ _).drew, fun h => by cases h⟩
  case l0 =>
    intro f ms _ _ w' h
    have hb' : Below w5.heap.size w5 w' := by rcases h with h | h | h <;> exact h.1
    have e := (hb'.block _ (heap_lt q5)).trans q5
    exact ⟨by rw [cell_of_heap e]; rfl, by rw [cell_of_heap e]; rfl, by rw [cell_of_heap e]; rfl, by rw [cell_of_heap e]; rfl, by rw [cell_of_heap e]; rfl⟩
  case l1 =>
    intro f ms _ _ w' h
    have hb' : Below w5.heap.size w5 w' := by rcases h with h | h | h <;> exact h.1
    have e := (hb'.block _ (heap_lt q5)).trans q5
    exact ⟨by rw [cell_of_heap e]; rfl, by rw [cell_of_heap e]; rfl, by rw [cell_of_heap e]; rfl, by rw [cell_of_heap e]; rfl, by rw [cell_of_heap e]; rfl⟩
  case l2 =>
    intro f ms _ _ w' h
    have hb' : Below w5.heap.size w5 w' := by rcases h with h | h | h <;> exact h.1
    have e := (hb'.block _ (heap_lt q5)).trans q5
    exact ⟨by rw [cell_of_heap e]; rfl, by rw [cell_of_heap e]; rfl, by rw [cell_of_heap e]; rfl, by rw [cell_of_heap e]; rfl, by rw [cell_of_heap e]; rfl⟩
  case s0 => exact fun w' h => ⟨h.1.alloc h.1.size _, fun _ => ⟨h.1.size, World.alloc_heap_new _ _⟩⟩
  case s1 => exact fun _ w' h => ⟨h.1.alloc h.1.size _, fun _ => ⟨h.1.size, World.alloc_heap_new _ _⟩⟩
  case s2 => exact fun _ _ w' h => ⟨h.1.alloc h.1.size _, fun _ => ⟨h.1.size, World.alloc_heap_new _ _⟩⟩
  case a4 =>
    intro f ms w' h
    refine (span_any 0 5 w').mono ?_
    rintro e w6 ⟨rfl, hb6⟩
    exact ⟨(), rfl, h.1.trans (hb6.mono h.1.size), fun hf => ⟨(h.2 hf).1, (hb6.block _ (heap_lt (h.2 hf).2)).trans (h.2 hf).2⟩⟩
  case a5 =>
    intro f ms _ w' h
    refine (span_any 0 10 w').mono ?_
    rintro e w6 ⟨rfl, hb6⟩
    exact ⟨(), rfl, h.1.trans (hb6.mono h.1.size), fun hf => ⟨(h.2 hf).1, (hb6.block _ (heap_lt (h.2 hf).2)).trans (h.2 hf).2⟩⟩
  case a7 =>
    intro ms _ _ w' h
    have h1 := h.1
    obtain ⟨hms, e5⟩ := h.2 rfl
    have e := (h1.block _ (heap_lt q0')).trans q0'
    have hne : ms ≠ w.heap.size := by omega
    refine ⟨⟨_, by rw [cell_of_heap e]; rfl⟩, frozen_of_heap e, ⟨_, by rw [cell_of_heap e]; rfl⟩, frozen_of_heap e, ⟨_, by rw [cell_of_heap e]; rfl⟩, frozen_of_heap e, ⟨_, by rw [cell_of_heap e]; rfl⟩, frozen_of_heap e, ⟨_, by rw [cell_of_heap e]; rfl⟩, frozen_of_heap e, ?_, ?_, ?_⟩
    · exact (((((hbw.trans (h1.mono hbw.size)).setCell (Nat.le_refl _) _).setCell (Nat.le_refl _) _).setCell (Nat.le_refl _) _).setCell (Nat.le_refl _) _).setCell (Nat.le_refl _) _
    · exact heap_setCell_at (k := 4) (heap_setCell_at (k := 3) (heap_setCell_at (k := 2) (heap_setCell_at (k := 1) (heap_setCell_at (k := 0) e _) _) _) _) _
    · rw [Below.heap_setCell _ _ _ _ hne, Below.heap_setCell _ _ _ _ hne, Below.heap_setCell _ _ _ _ hne, Below.heap_setCell _ _ _ _ hne, Below.heap_setCell _ _ _ _ hne]
      exact e5
  case aQ =>
    rintro ms _ _ w6 ⟨hb6, e6, e7⟩
    have H6 := Lib.hid (And.intro hb6 (And.intro e6 e7))
    clear hb6 e6 e7
    go_wp2_with fail
    obtain ⟨hb6, e6, e7⟩ := H6.out
    refine bodyPost_ret (res_c26 (x := .slice (some ⟨ms, 0, none⟩) 3 3) (y := .int .i64 0) (z := .int .i64 5) (u := .int .i64 0) (v := .int .i64 10) rfl _ rfl (by rw [cell_of_heap e6]; rfl) (by rw [cell_of_heap e6]; rfl) (by rw [cell_of_heap e6]; rfl) (by rw [cell_of_heap e6]; rfl) (by rw [cell_of_heap e6]; rfl)) rfl ⟨ms, rfl, prts_fifteen e7, hb6⟩
theorem ex_comp : compE pileQ = (0, 1, 3, 0) := by decide +kernel
theorem ex_needs : needsE pileQ = (3, 0) := by decide +kernel
theorem ex_ord3 : ordersE (pileP 3) = 0 ∧ ordersL (pileP 3) = [[0, 1, 2]] := by decide +kernel
theorem ex_few2 : fewestW (pileP 4) = [-1, 0, 1, 0] ∧ origN (fewestW (pileP 4)) = 1 ∧ (pileP 4).valid = true := by decide +kernel
end Go.Proofs.Ytnfhlbmapfoifaa
