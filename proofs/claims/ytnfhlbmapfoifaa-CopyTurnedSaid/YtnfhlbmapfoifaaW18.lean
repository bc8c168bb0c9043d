/- How many ways. The way with the fewest originals. -/
import Derived.Test.YtnfhlbmapfoifaaW16
namespace Go.Proofs.Ytnfhlbmapfoifaa
open Go.RowKit
set_option linter.unusedVariables false

theorem leaves_ok {fn : Func} {tmps : Array Value} {R : Ending → World → Prop} {f : Nat} {pe : Value} {w : World} (hok : CallsD Try.prog f #[pe] .returning w fun e u' w' => e = .returned (.tuple #[]) ∧ u' = .returning ∧ w = w')
    (hcf : ∀ args w, (callFunc f args).run Try.prog w = .ok (.enter f args) w) {v : Value} (hv : (results fn tmps).run Try.prog w = .ok v w) (hR : R (.returned v) w) :
    Leaves Try.prog fn tmps R [{ target := .fn (.func f) #[pe], args := #[] }] .returning w := by
  refine ⟨by simp, _, _, f, #[pe], rfl, ?_, ?_⟩
  · simp [invoke, go_sem, hcf]
  · refine CallsD.mono hok ?_
    rintro e u' w' ⟨rfl, rfl, rfl⟩
    exact ⟨v, hv, hR⟩
theorem leaves_no {fn : Func} {tmps : Array Value} {R : Ending → World → Prop} {f : Nat} {pe : Value} {w w' : World} {c c' : List PanicEntry}
    (hno : CallsD Try.prog f #[pe] (.panicking c) w fun e u' w'' => e = .returned (.tuple #[]) ∧ u' = .panicking c' ∧ w'' = w') (hs : settle (.panicking c') = .returning)
    (hcf : ∀ args w, (callFunc f args).run Try.prog w = .ok (.enter f args) w) {v : Value} (hv : (results fn tmps).run Try.prog w' = .ok v w') (hR : R (.returned v) w') :
    Leaves Try.prog fn tmps R [{ target := .fn (.func f) #[pe], args := #[] }] (.panicking c) w := by
  refine ⟨by simp, _, _, f, #[pe], rfl, ?_, ?_⟩
  · simp [invoke, go_sem, hcf]
  · refine CallsD.mono hno ?_
    rintro e u' w'' ⟨rfl, rfl, rfl⟩
    simp only [hs]
    exact ⟨v, hv, hR⟩
theorem res_cc {fn : Func} {p u : Tmp} (h : fn.results = #[.cell p 3, .cell u 29]) (tmps : Array Value) {w : World} {a b : Nat} {x y : Value} (hp : tmps.getD p undef = .pointer (some ⟨a, 0, none⟩)) (hu : tmps.getD u undef = .pointer (some ⟨b, 0, none⟩))
    (hx : w.cell? ⟨a, 0, none⟩ = some x) (hy : w.cell? ⟨b, 0, none⟩ = some y) :
    (results fn tmps).run Try.prog w = .ok (.tuple #[x, y]) w := by
  have hp' : tmps[p]?.getD undef = .pointer (some ⟨a, 0, none⟩) := by simpa using hp
  have hu' : tmps[u]?.getD undef = .pointer (some ⟨b, 0, none⟩) := by simpa using hu
  simp [results, h, hp', hu', hx, hy, go_sem]
theorem res_ccc {fn : Func} {p q u : Tmp} (h : fn.results = #[.cell p 3, .cell q 4, .cell u 29]) (tmps : Array Value) {w : World} {a b c : Nat} {x y z : Value} (hp : tmps.getD p undef = .pointer (some ⟨a, 0, none⟩)) (hq : tmps.getD q undef = .pointer (some ⟨c, 0, none⟩)) (hu : tmps.getD u undef = .pointer (some ⟨b, 0, none⟩))
    (hx : w.cell? ⟨a, 0, none⟩ = some x) (hz : w.cell? ⟨c, 0, none⟩ = some z) (hy : w.cell? ⟨b, 0, none⟩ = some y) :
    (results fn tmps).run Try.prog w = .ok (.tuple #[x, z, y]) w := by
  have hp' : tmps[p]?.getD undef = .pointer (some ⟨a, 0, none⟩) := by simpa using hp
  have hq' : tmps[q]?.getD undef = .pointer (some ⟨c, 0, none⟩) := by simpa using hq
  have hu' : tmps[u]?.getD undef = .pointer (some ⟨b, 0, none⟩) := by simpa using hu
  simp [results, h, hp', hq', hu', hx, hy, hz, go_sem]
theorem res_tc {fn : Func} {p u : Tmp} (h : fn.results = #[.tmp p, .cell u 29]) (tmps : Array Value) {w : World} {b : Nat} {x : Value} (hu : tmps.getD u undef = .pointer (some ⟨b, 0, none⟩)) (hc : w.cell? ⟨b, 0, none⟩ = some x) :
    (results fn tmps).run Try.prog w = .ok (.tuple #[tmps.getD p undef, x]) w := by
  have hu' : tmps[u]?.getD undef = .pointer (some ⟨b, 0, none⟩) := by simpa using hu
  simp [results, h, hu', hc, go_sem]
theorem res_ttc {fn : Func} {p q u : Tmp} (h : fn.results = #[.tmp p, .tmp q, .cell u 29]) (tmps : Array Value) {w : World} {b : Nat} {x : Value} (hu : tmps.getD u undef = .pointer (some ⟨b, 0, none⟩)) (hc : w.cell? ⟨b, 0, none⟩ = some x) :
    (results fn tmps).run Try.prog w = .ok (.tuple #[tmps.getD p undef, tmps.getD q undef, x]) w := by
  have hu' : tmps[u]?.getD undef = .pointer (some ⟨b, 0, none⟩) := by simpa using hu
  simp [results, h, hu', hc, go_sem]
theorem collect_any {p : Prs} {a : Option Addr} {cap bp g pb : Nat} {w : World} (hv : p.valid = true) (hpb : w.heap[pb]? = some (.cells #[.pointer (some ⟨bp, 0, none⟩)] 79 (0, 0))) (hP : PileP w bp p a cap g) (hN : (waysL p).length ≤ 1000000) :
    Calls Try.prog 50 #[.func (.func 97) #[] #[.pointer (some ⟨pb, 0, none⟩)]] w fun e w' => ∃ v vs, e = .returned v ∧ w'.ownsRow w.heap.size 76 1 v (waysL p).length vs ∧ RowsOf w' w.heap.size vs (waysL p) ∧ Below w.heap.size w w' := by
  go_enter Try.func50, Try.ntmps50
  go_wp2_with fail
  refine (appendSeq_any hv hpb hP hN).mono ?_
  rintro e w' ⟨v, vs, rfl, h⟩
  have H := Lib.hid h
  clear h
  go_wp2_with fail
  go_ret
  exact ⟨_, vs, rfl, H.out⟩
theorem flat_len {α β : Type} (f : α → List β) (B : Nat) : ∀ l : List α, (∀ x ∈ l, (f x).length ≤ B) → (l.flatMap f).length ≤ l.length * B
  | [], _ => by simp
  | x :: l, h => by
    have h1 := h x (by simp)
    have h2 := flat_len f B l (fun y hy => h y (by simp [hy]))
    simp only [List.flatMap_cons, List.length_append, List.length_cons, Nat.succ_mul]
    omega
theorem onW_len {p : Prs} (hn : p.cards.length ≤ 5) : ∀ (d : Nat) (pre : List Int), (onW p d pre).length ≤ 6 ^ d
  | 0, pre => by
    rw [onW_zero]
    split <;> simp
  | d + 1, pre => by
    rw [onW_succ]
    have h1 := flat_len (onF p d pre) (6 ^ d) (froms p.cards.length) (fun x _ => by
      unfold onF
      split
      · simp
      · exact onW_len hn d _)
    have h2 : (froms p.cards.length).length ≤ 6 := by simp [froms]; omega
    have h3 := Nat.mul_le_mul_right (6 ^ d) h2
    rw [Nat.pow_succ]
    omega
theorem ways_len {p : Prs} (hv : p.valid = true) : (waysL p).length ≤ 1000000 := by
  have hn : p.cards.length ≤ 5 := by
    unfold Prs.valid at hv
    simp at hv
    exact hv.1.1.1
  have h1 := onW_len hn p.cards.length []
  have h2 := Nat.pow_le_pow_right (n := 6) (by decide) hn
  unfold waysL
  have : (6 ^ 5 : Nat) = 7776 := by decide
  omega
/-- What has been counted. -/
structure CntI (w0 : World) (cb eb i : Nat) (A : World) (C : Nat → Prop) : Prop where
  below : Below w0.heap.size w0 A
  hcb : C cb
  heb : C eb
  cnt : A.heap[cb]? = some (.cells #[.int .i64 (i : Int)] 3 (0, 0))
  err : A.heap[eb]? = some (.cells #[.int .i64 0] 29 (0, 0))
theorem CntI.stable {w0 : World} {cb eb i lb : Nat} {A B : World} {C : Nat → Prop} (h : CntI w0 cb eb i A C) (hs : Same (fun k => ¬ C k ∨ k = lb) A B) (h1 : lb ≠ cb) (h2 : lb ≠ eb) (h3 : w0.heap.size ≤ lb) (hC : ∀ k, k < w0.heap.size → C k) : CntI w0 cb eb i B C := by
  obtain ⟨k1, k2, k3, k4, k5⟩ := h
  refine ⟨k1.trans (hs.below k1.size (fun k hk e => ?_)), k2, k3, (hs.block cb (heap_lt k4) (fun e => ?_)).trans k4, (hs.block eb (heap_lt k5) (fun e => ?_)).trans k5⟩
  · rcases e with e | e
    · exact e (hC k hk)
    · omega
  · rcases e with e | e
    · exact e k2
    · exact h1 e.symm
  · rcases e with e | e
    · exact e k3
    · exact h2 e.symm
attribute [local go_sem] Oper.semAt_some
set_option maxRecDepth 100000 in
set_option maxHeartbeats 4000000 in
theorem waysC_any {p : Prs} {a : Option Addr} {cap : Nat} {w : World} (ha : IsPrts w a p.cards) (hn : p.cards.length ≤ 16) :
    Calls Try.prog 32 #[p.v a cap] w fun e w' => e = .returned (.tuple #[.int .i64 (waysE p).1, .int .i64 (waysE p).2]) ∧ Below w.heap.size w w' := by
  have hmf : ∀ (fn : Fn) (first cap : Array Value) (w : World), (Instr.makeFunc fn first cap).run Try.prog w = .ok (.func fn first cap) w := fun _ _ _ _ => rfl
  refine calls_of_wp_x Try.func32 rfl ?_
  simp only [Try.ntmps32, List.size_toArray, List.length_cons, List.length_nil, Nat.reduceAdd, Nat.reduceSub, Array.replicate_succ, Array.replicate_zero, List.push_toArray, List.append_toArray, List.nil_append, List.cons_append]
  go_wp2_with fail
  obtain ⟨W1, hW1⟩ : ∃ W1 : World, W1 = ((w.alloc (.cells (p.cells a cap) 26)).alloc (.cells #[.int .i64 0] 3)).alloc (.cells #[.int .i64 0] 29) := ⟨_, rfl⟩
  have hb1 : Below w.heap.size w W1 := by rw [hW1]; exact (((Below.refl _ w).alloc (Nat.le_refl _) _).alloc (by simp) _).alloc (by simp; omega) _
  have hz1 : W1.heap.size = w.heap.size + 3 := by rw [hW1]; simp
  have q1 : W1.heap[w.heap.size + 1]? = some (.cells #[.int .i64 0] 3 (0, 0)) := by
    rw [hW1]
    have := World.alloc_heap_new (w.alloc (.cells (p.cells a cap) 26)) (.cells #[.int .i64 0] 3)
    rw [World.size_alloc] at this
    exact (Below.heap_alloc _ _ _ (by simp)).trans this
  have q2 : W1.heap[w.heap.size + 2]? = some (.cells #[.int .i64 0] 29 (0, 0)) := by
    rw [hW1]
    have := World.alloc_heap_new ((w.alloc (.cells (p.cells a cap) 26)).alloc (.cells #[.int .i64 0] 3)) (.cells #[.int .i64 0] 29)
    rw [World.size_alloc, World.size_alloc] at this
    exact this
  have ha1 := ha.mono hb1
  rw [← hW1]
  have HA := Lib.hid ha
  clear hW1 ha
  cases hv : p.valid with
  | false =>
    have hE : openE p true = 1 := by unfold openE; rw [hv]; rfl
    refine (open_no ha1 hn true (by rw [hE]; decide)).mono ?_
    rintro e w2 ⟨rfl, hb2⟩
    have he2 := (hb2.block (w.heap.size + 2) (by omega)).trans q2
    have hk2 := (hb2.block (w.heap.size + 1) (by omega)).trans q1
    have hc2 : w2.cell? ⟨w.heap.size + 2, 0, none⟩ = some (.int .i64 0) := by rw [cell_of_heap he2]; rfl
    have hb3 : Below w.heap.size w ((w2.alloc (.cells #[.int .i64 (openE p true)] 115)).setCell ⟨w.heap.size + 2, 0, none⟩ (.int .i64 (openE p true))) := by
      have h2 := hb1.trans (hb2.mono (by omega))
      exact (h2.alloc h2.size _).setCell (by simp) _
    have hcell := World.cell?_setCell_same (w2.alloc (.cells #[.int .i64 (openE p true)] 115)) ⟨w.heap.size + 2, 0, none⟩ (.int .i64 (openE p true)) (cell_stays ((Below.refl _ w2).alloc (Nat.le_refl _) _) hc2)
    have hk3 : ((w2.alloc (.cells #[.int .i64 (openE p true)] 115)).setCell ⟨w.heap.size + 2, 0, none⟩ (.int .i64 (openE p true))).heap[w.heap.size + 1]? = some (.cells #[.int .i64 0] 3 (0, 0)) :=
      (Below.heap_setCell _ _ _ _ (by simp)).trans ((Below.heap_alloc _ _ _ (heap_lt hk2)).trans hk2)
    refine ⟨[], _, rfl, leaves_no (recov79_no (openE p true) hc2 (frozen_of_heap he2)) rfl cf79 (res_cc rfl _ rfl rfl (x := .int .i64 0) (by rw [cell_of_heap hk3]; rfl) hcell) ⟨?_, hb3⟩⟩
    unfold waysE
    rw [hE]
    rfl
  | true =>
    refine (open_yes ha1 hn hv).mono ?_
    rintro e w2 ⟨bp, g, rfl, hbp, hP, hb2⟩
    have hz2 : w.heap.size + 3 ≤ w2.heap.size := by have := hb2.size; omega
    have q1' := (hb2.block (w.heap.size + 1) (by omega)).trans q1
    have q2' := (hb2.block (w.heap.size + 2) (by omega)).trans q2
    have hB2 := hb1.trans (hb2.mono (by omega))
    clear hb1 hz1 q1 q2 ha1 hb2 hbp
    go_wp2_with fail
    refine ways_any.mono ?_
    rintro e w3 ⟨rfl, rfl⟩
    have hb3 : Below w2.heap.size w2 (w2.alloc (.cells #[.pointer (some ⟨bp, 0, none⟩)] 79)) := (Below.refl _ _).alloc (Nat.le_refl _) _
    have q3 := World.alloc_heap_new w2 (.cells #[.pointer (some ⟨bp, 0, none⟩)] 79)
    have hP3 := hP.mono hb3
    have hz3 : (w2.alloc (.cells #[.pointer (some ⟨bp, 0, none⟩)] 79)).heap.size = w2.heap.size + 1 := by simp
    have hB3 := hB2.trans (hb3.mono (by omega))
    have q1 := (hb3.block (w.heap.size + 1) (by omega)).trans q1'
    have q2 := (hb3.block (w.heap.size + 2) (by omega)).trans q2'
    have hpb : w2.heap.size < w2.heap.size + 1 := by omega
    revert hb3 q3 hP3 hz3 hB3 q1 q2
    generalize (w2.alloc (.cells #[.pointer (some ⟨bp, 0, none⟩)] 79)) = w3
    intro hb3 q3 hP3 hz3 hB3 q1 q2
    have HP := Lib.hid (And.intro hP3 (And.intro q3 (And.intro hB3 (And.intro q1 q2))))
    have HZ := Lib.hid (And.intro hz2 hz3)
    have HV := Lib.hid hv
    clear hP hb3 q3 hP3 hB3 q1 q2 q1' q2' hB2 hz2 hz3 hv hpb
    go_wp2_with fail
    obtain ⟨hz2, hz3⟩ := HZ.out
    refine wp_rangeFuncC (gf := 97) (lb := #[.pointer (some ⟨w2.heap.size, 0, none⟩)]) rfl (fun args w => by simp [callFunc, Try.func97, Try.f97, go_sem]) (waysL p).length (WayOk p (w3.heap.size + 2)) (fun q => q = w.heap.size + 1 ∨ q = w3.heap.size + 1) ?hps (by omega) (by omega) ?hit
      (fun i A C => CntI w (w.heap.size + 1) (w.heap.size + 2) i A C ∧ ∀ k, k < w3.heap.size + 2 → C k) (fun _ _ _ _ => False) ?hI ?hIx ?h0 ?hround ?hdone ?hstop
    case hps =>
      rintro i v A K ⟨x, vc, _, rfl, _⟩
      rfl
    case hit =>
      intro W hb hsz
      rw [← hsz]
      obtain ⟨hP3, q3, hB3, q1, _⟩ := HP.out
      refine ways_iter (a := a) (cap := cap) (bp := bp) (g := g) HV.out (fun A hA => ?_)
      have hbA : ∀ k, k < w3.heap.size → k ≠ w.heap.size + 1 → A.heap[k]? = w3.heap[k]? := fun k hk hne => (hA.block k (by omega) (by rintro (e | e) <;> omega)).trans (hb.block k hk)
      have hBA : Below w.heap.size w A := (hB3.trans (hb.mono (by omega))).trans (hA.below (by omega) (fun k hk e => by rcases e with e | e <;> omega))
      refine ⟨(hbA _ (by omega) (by omega)).trans q3, (hbA _ (heap_lt hP3.pile) ?_).trans hP3.pile, (hbA _ (heap_lt hP3.loss) ?_).trans hP3.loss, HA.out.mono hBA⟩
      · rintro rfl
        have := hP3.pile
        rw [q1] at this
        simp at this
      · rintro rfl
        have := hP3.loss
        rw [q1] at this
        simp at this
    case hI =>
      intro i A B C h hs
      exact ⟨h.1.stable hs (by omega) (by omega) (by omega) (fun k hk => h.2 k (by omega)), h.2⟩
    case hIx =>
      intro c i A B C h _
      exact h
    case h0 =>
      intro W hb hsz
      obtain ⟨hP3, q3, hB3, q1, q2⟩ := HP.out
      exact ⟨⟨hB3.trans (hb.mono (by omega)), by omega, by omega, (hb.block _ (by omega)).trans q1, (hb.block _ (by omega)).trans q2⟩, fun k hk => hk⟩
    case hround =>
      rintro i v W C K hiN ⟨x, vc, hx, rfl, hvc, rfl⟩ hKC hC ⟨hcnt, hC0⟩ hlt
      obtain ⟨av, cv, rfl, _⟩ := own_slice hvc
      have HH := Lib.hid (And.intro hC (And.intro hcnt (And.intro hlt hiN)))
      clear hx hvc hKC hC hcnt hlt hiN hC0 hz2 hz3
      gi_wp2_with fail
      refine ⟨trivial, fun V2 hS2 hsz2 => ?_⟩
      obtain ⟨hC, hcnt, hlt, hiN⟩ := HH.out
      obtain ⟨hz2, hz3⟩ := HZ.out
      have hcnt2 := hcnt.stable (hS2.mono (fun _ _ e => .inr e)) (by omega) (by omega) (by omega) (fun k hk => hC k (by omega))
      obtain ⟨k1, k2, k3, k4, k5⟩ := hcnt2
      have c4 : V2.cell? ⟨w.heap.size + 1, 0, none⟩ = some (.int .i64 (i : Int)) := by rw [cell_of_heap k4]; rfl
      have f4 : V2.frozen? ⟨w.heap.size + 1, 0, none⟩ = false := frozen_of_heap k4
      have hN := ways_len HV.out
      have hi2 : (i : Int) ≤ 1000000 := by omega
      have HH2 := Lib.hid (And.intro hC (And.intro k1 (And.intro k4 (And.intro k5 (And.intro hlt hsz2)))))
      clear hC hcnt hlt hiN hz2 hz3 k1 k2 k3 k4 k5 hN hS2 hsz2 HH
      gi_wp2_with fail
      obtain ⟨hC, k1, k4, k5, hlt, hsz2⟩ := HH2.out
      obtain ⟨hz2, hz3⟩ := HZ.out
      have hsz : (V2.setCell ⟨w.heap.size + 1, 0, none⟩ (.int .i64 ((i : Int) + 1))).heap.size = V2.heap.size := by simp
      refine ⟨(Same.refl _ V2).setCell (show mayC (fun q => q = w.heap.size + 1 ∨ q = w3.heap.size + 1) (w3.heap.size + 2) C (w.heap.size + 1) ∨ _ from .inl ⟨hC _ (by omega), fun _ => .inl rfl⟩) _, Below.heap_setCell _ _ _ _ (by show w3.heap.size + 1 ≠ w.heap.size + 1; omega), fun k => C k ∧ k < V2.heap.size, fun k hk => ⟨hC k hk, by omega⟩, fun k hk => by rw [hsz]; exact hk.2, fun k hk => .inl hk.1, ⟨k1.setCell (by show w.heap.size ≤ w.heap.size + 1; omega) _, ⟨hC _ (by omega), by omega⟩, ⟨hC _ (by omega), by omega⟩, ?_, (Below.heap_setCell _ _ _ _ (by show w.heap.size + 2 ≠ w.heap.size + 1; omega)).trans k5⟩, fun k hk => ⟨hC k hk, by omega⟩⟩
      exact heap_setCell_at k4 _
    case hdone =>
      rintro W C ⟨⟨h1, h2, h3, h4, h5⟩, hC⟩ hdef
      have c4 : W.cell? ⟨w.heap.size + 1, 0, none⟩ = some (.int .i64 ((waysL p).length : Int)) := by rw [cell_of_heap h4]; rfl
      have f4 : W.frozen? ⟨w.heap.size + 1, 0, none⟩ = false := frozen_of_heap h4
      have c5 : W.cell? ⟨w.heap.size + 2, 0, none⟩ = some (.int .i64 0) := by rw [cell_of_heap h5]; rfl
      have f5 : W.frozen? ⟨w.heap.size + 2, 0, none⟩ = false := frozen_of_heap h5
      have HF := Lib.hid (And.intro h1 (And.intro h4 (And.intro h5 hdef)))
      clear h1 h2 h3 h4 h5 hdef hz2 hz3
      go_wp2_with fail
      obtain ⟨h1, h4, h5, hdef⟩ := HF.out
      obtain ⟨hz2, hz3⟩ := HZ.out
      have e1 := heap_setCell_at (k := 0) h4 (.int .i64 ((waysL p).length : Int))
      have e2 : (W.setCell ⟨w.heap.size + 1, 0, none⟩ (.int .i64 ((waysL p).length : Int))).heap[w.heap.size + 2]? = _ := (Below.heap_setCell _ _ _ _ (by show w.heap.size + 2 ≠ w.heap.size + 1; omega)).trans h5
      have e3 := heap_setCell_at (k := 0) e2 (.int .i64 0)
      have e4 : ((W.setCell ⟨w.heap.size + 1, 0, none⟩ (.int .i64 ((waysL p).length : Int))).setCell ⟨w.heap.size + 2, 0, none⟩ (.int .i64 0)).heap[w.heap.size + 1]? = _ := (Below.heap_setCell _ _ _ _ (by show w.heap.size + 1 ≠ w.heap.size + 2; omega)).trans e1
      have e5 : ((W.setCell ⟨w.heap.size + 1, 0, none⟩ (.int .i64 ((waysL p).length : Int))).setCell ⟨w.heap.size + 2, 0, none⟩ (.int .i64 0)).heap[w3.heap.size]? = some (.deferred (some [])) :=
        (Below.heap_setCell _ _ _ _ (by show w3.heap.size ≠ w.heap.size + 2; omega)).trans ((Below.heap_setCell _ _ _ _ (by show w3.heap.size ≠ w.heap.size + 1; omega)).trans hdef)
      have hBW : Below w.heap.size w ((W.setCell ⟨w.heap.size + 1, 0, none⟩ (.int .i64 ((waysL p).length : Int))).setCell ⟨w.heap.size + 2, 0, none⟩ (.int .i64 0)) := (h1.setCell (by show w.heap.size ≤ w.heap.size + 1; omega) _).setCell (by show w.heap.size ≤ w.heap.size + 2; omega) _
      revert e3 e4 e5 hBW
      generalize ((W.setCell ⟨w.heap.size + 1, 0, none⟩ (.int .i64 ((waysL p).length : Int))).setCell ⟨w.heap.size + 2, 0, none⟩ (.int .i64 0)) = X
      intro e3 e4 e5 hBW
      have hput : Below w.heap.size w (X.putObj w3.heap.size (.deferred none)) :=
        (((Same.of_below (fun q => w.heap.size ≤ q) hBW).putObj (.inl (by omega)) _).below (Nat.le_refl _) (fun q hq h => by omega))
      have g3 : (X.putObj w3.heap.size (.deferred none)).heap[w.heap.size + 2]? = _ := (World.putObj_heap_other (by omega)).trans e3
      have g4 : (X.putObj w3.heap.size (.deferred none)).heap[w.heap.size + 1]? = _ := (World.putObj_heap_other (by omega)).trans e4
      refine ⟨[w3.heap.size], _, rfl, by simp, _, run_takeDeferred e5, leaves_ok (recov79_ok _ _) cf79 (res_cc rfl _ rfl rfl (x := .int .i64 ((waysL p).length : Int)) (y := .int .i64 0) (by rw [cell_of_heap g4]; rfl) (by rw [cell_of_heap g3]; rfl)) ⟨?_, hput⟩⟩
      unfold waysE openE
      rw [HV.out]
      rfl
    case hstop =>
      intro c i W C _ h
      exact h.elim
end Go.Proofs.Ytnfhlbmapfoifaa

namespace Go.Proofs.Ytnfhlbmapfoifaa
open Go.RowKit
set_option linter.unusedVariables false

/-- A slice that holds a way. -/
def RowV (w : World) (x : List Int × Value) : Prop := ∃ av cv, x.2 = .slice av x.1.length cv ∧ IsInts w av x.1
/-- A slice of ways that can be read. -/
def IsRows (w : World) (a : Option Addr) (l : List (List Int × Value)) : Prop :=
  ∀ i, i < l.length → ∃ b off, a = some ⟨b, off, none⟩ ∧ w.cell? ⟨b, off + i, none⟩ = some (l.getD i ([], undef)).2 ∧ RowV w (l.getD i ([], undef))
theorem RowV.mono {w w' : World} {x : List Int × Value} (h : RowV w x) (hb : Below w.heap.size w w') : RowV w' x := by
  obtain ⟨av, cv, h1, h2⟩ := h
  exact ⟨av, cv, h1, h2.mono hb⟩
theorem rows_read {w : World} {B n : Nat} {v : Value} {vs : List Value} {l : List (List Int)} (h : w.ownsRow B 76 1 v n vs) (hr : RowsOf w B vs l) (hn : l.length = n) : ∃ a cap, v = .slice a n cap ∧ n ≤ cap ∧ ∃ L : List (List Int × Value), L.map Prod.fst = l ∧ L.length = n ∧ IsRows w a L := by
  obtain ⟨a, cap, rfl, hcap, _⟩ := own_slice h
  have hlen := hr.1
  have hL : (l.zip vs).length = n := by rw [List.length_zip]; omega
  refine ⟨a, cap, rfl, hcap, l.zip vs, ?_, hL, fun i hi => ?_⟩
  · exact List.map_fst_zip (by omega)
  · have hi' : i < l.length := by omega
    obtain ⟨vc, h1, h2⟩ := hr.2 i _ (List.getElem?_eq_getElem hi')
    obtain ⟨g, c, e, _, _, _, _, hc⟩ := own_cell h (by omega)
    cases e
    obtain ⟨av, cv, rfl, _⟩ := own_slice h2
    have hv : i < vs.length := by omega
    have e1 : (l.zip vs).getD i ([], undef) = (l[i], .slice av l[i].length cv) := by
      rw [List.getElem?_eq_getElem hv] at h1
      have h1' := Option.some.inj h1
      simp [List.getElem?_eq_getElem hi, h1']
    rw [e1]
    refine ⟨g, 0, rfl, ?_, av, cv, rfl, own_ints h2⟩
    rw [Nat.zero_add]
    exact hc i _ h1
theorem IsRows.mono {w w' : World} {a : Option Addr} {l : List (List Int × Value)} (h : IsRows w a l) (hb : Below w.heap.size w w') : IsRows w' a l := fun i hi => by
  obtain ⟨b, off, h1, h2, h3⟩ := h i hi
  exact ⟨b, off, h1, cell_stays hb h2, h3.mono hb⟩
theorem IsRows.tail {w : World} {b off : Nat} {x : List Int × Value} {l : List (List Int × Value)} (h : IsRows w (some ⟨b, off, none⟩) (x :: l)) : IsRows w (some ⟨b, off + 1, none⟩) l := fun i hi => by
  obtain ⟨b', off', h1, h2, h3⟩ := h (i + 1) (by simp; omega)
  cases h1
  have e : (x :: l).getD (i + 1) ([], undef) = l.getD i ([], undef) := by simp
  rw [e] at h2 h3
  exact ⟨b, off + 1, rfl, by rw [show off + 1 + i = off + (i + 1) by omega]; exact h2, h3⟩
theorem take_snocL {l : List (List Int × Value)} {k : Nat} (h : k < l.length) : l.take (k + 1) = l.take k ++ [l.getD k ([], undef)] := by
  rw [List.take_succ_eq_append_getElem h]; simp [h]
/-- The one with the fewest originals, the first such. -/
def leastP (f : List Int × Value) (l : List (List Int × Value)) : List Int × Value := l.foldl (fun f x => if origN x.1 < origN f.1 then x else f) f
theorem leastP_snoc (f : List Int × Value) (l : List (List Int × Value)) (x : List Int × Value) : leastP f (l ++ [x]) = if origN x.1 < origN (leastP f l).1 then x else leastP f l := by
  unfold leastP; rw [List.foldl_append]; rfl
theorem leastP_fst : ∀ (l : List (List Int × Value)) (f : List Int × Value), (leastP f l).1 = leastW f.1 (l.map Prod.fst)
  | [], f => rfl
  | y :: l, f => by
    have h1 : leastP f (y :: l) = leastP (if origN y.1 < origN f.1 then y else f) l := rfl
    have h2 : leastW f.1 ((y :: l).map Prod.fst) = leastW (if origN y.1 < origN f.1 then y.1 else f.1) (l.map Prod.fst) := rfl
    rw [h1, h2, leastP_fst l]
    split <;> rfl
theorem leastP_all {Q : List Int × Value → Prop} : ∀ (l : List (List Int × Value)) (f : List Int × Value), Q f → (∀ x ∈ l, Q x) → Q (leastP f l)
  | [], f, hf, _ => hf
  | y :: l, f, hf, hl => by
    have h1 : leastP f (y :: l) = leastP (if origN y.1 < origN f.1 then y else f) l := rfl
    rw [h1]
    refine leastP_all l _ ?_ (fun x hx => hl x (by simp [hx]))
    split
    · exact hl y (by simp)
    · exact hf
set_option maxHeartbeats 1000000 in
theorem least_any {n : Nat} {f : List Int × Value} {l : List (List Int × Value)} (hn : n ≤ 16) (hf : f.1.length = n) (hl : ∀ x ∈ l, x.1.length = n) {a : Option Addr} {cap : Nat} {w : World} (haf : RowV w f) (ha : IsRows w a l) (hN : l.length ≤ 1000000) :
    Calls Try.prog 54 #[.func (.func 55) #[] #[], f.2, .slice a l.length cap] w fun e w' => e = .returned (leastP f l).2 ∧ w = w' := by
  go_enter Try.func54, Try.ntmps54
  go_wp2_with fail
  go_loop [1, 11] (fun r i => ∃ (k : Nat) (b : List Int × Value), k ≤ l.length ∧ i = .int .i64 k ∧ r = b.2 ∧ RowV w b ∧ b.1.length = n ∧ Hid (b = leastP f (l.take k))) (fun _ i => l.length - (intOf i).toNat)
  case atStart => exact ⟨0, f, by omega, rfl, rfl, haf, hf, rfl⟩
  case round =>
    obtain ⟨k, ⟨b, vb⟩, hk, rfl, hr, ⟨av, cv, hvb, hb⟩, hbn, HB⟩ := hrel
    simp only at hr hvb hb hbn
    subst hvb
    subst hr
    by_cases hlt : k < l.length
    · obtain ⟨bb, off, rfl, hc, ax, cx, hvx, hx⟩ := ha k hlt
      have hxn : (l.getD k ([], undef)).1.length = n := by
        have : l.getD k ([], undef) = l[k] := by simp [hlt]
        rw [this]; exact hl _ (List.getElem_mem hlt)
      have HS : Hid (leastP f (l.take (k + 1)) = if origN (l.getD k ([], undef)).1 < origN b then l.getD k ([], undef) else (b, .slice av b.length cv)) := by rw [Hid, take_snocL hlt, leastP_snoc, ← HB.out]
      revert hc hx hxn HS hvx
      generalize l.getD k ([], undef) = x
      obtain ⟨x, vx⟩ := x
      intro hc hvx hx hxn HS
      simp only at hvx hc hx hxn
      subst hvx
      have HO := Lib.hid (And.intro hx (And.intro hxn (And.intro hb hbn)))
      clear hx hxn hb hbn
      go_wp2_with fail
      refine (originals_any (by have := HO.out; omega) HO.out.1).mono ?_
      rintro e w' ⟨rfl, rfl⟩
      go_wp2_with fail
      refine (originals_any (by have := HO.out; omega) HO.out.2.2.1).mono ?_
      rintro e w' ⟨rfl, rfl⟩
      by_cases h1 : origN x < origN b
      · have h2 : (origN x : Int) < (origN b : Int) := by omega
        have H1 := Lib.hid h1
        clear h1
        go_wp2_with fail
        go_round
        case rel => exact ⟨k + 1, (x, .slice ax x.length cx), by omega, by go_num, rfl, ⟨_, _, rfl, HO.out.1⟩, HO.out.2.1, by rw [Hid, HS.out, if_pos H1.out]⟩
        case measure => simp [intOf]; omega
      · have h2 : ¬ (origN x : Int) < (origN b : Int) := by omega
        have H1 := Lib.hid h1
        clear h1
        go_wp2_with fail
        go_round
        case rel => exact ⟨k + 1, (b, .slice av b.length cv), by omega, by go_num, rfl, ⟨_, _, rfl, HO.out.2.2.1⟩, HO.out.2.2.2, by rw [Hid, HS.out, if_neg H1.out]⟩
        case measure => simp [intOf]; omega
    · obtain rfl : k = l.length := by omega
      rw [Hid, List.take_length] at HB
      have HB2 := Lib.hid HB
      clear hb HB hbn
      go_wp2_with fail
      go_ret
      rw [← HB2.out]
      exact ⟨rfl, rfl⟩
end Go.Proofs.Ytnfhlbmapfoifaa

