/- The law LendTrue: a cabinet that is made. The law LendTrue. The law LendTrue: for every list of numbers. -/
import Derived.Test.YtlhobddaojdnoaaR17
import Derived.Deep.CutBlock
import Derived.Test.YtlhobddaojdnoaaR4
import Derived.Test.YtlhobddaojdnoaaW25
namespace Go.Proofs.Ytlhobddaojdnoaa
open Go.RowKit
set_option linter.unusedVariables false

theorem res_made {fn : Func} {p q u : Tmp} (h : fn.results = #[.cell p 25, .cell q 22, .tmp u]) (tmps : Array Value) {w : World} {b g : Nat} {x y : Int} {a1 a2 a3 : Option Addr} {n1 n2 n3 c1 c2 c3 : Nat} {r : Value} (hp : tmps.getD p undef = .pointer (some ⟨b, 0, none⟩)) (hq : tmps.getD q undef = .pointer (some ⟨g, 0, none⟩)) (hu : tmps.getD u undef = r)
    (h0 : w.cell? ⟨b, 0, none⟩ = some (.int .i64 x)) (h1 : w.cell? ⟨b, 1, none⟩ = some (.slice a1 n1 c1)) (h2 : w.cell? ⟨b, 2, none⟩ = some (.int .i64 y)) (h3 : w.cell? ⟨b, 3, none⟩ = some (.slice a2 n2 c2)) (h4 : w.cell? ⟨g, 0, none⟩ = some (.slice a3 n3 c3)) :
    (results fn tmps).run Try.prog w = .ok (.tuple #[.agg #[.int .i64 x, .slice a1 n1 c1, .int .i64 y, .slice a2 n2 c2], .slice a3 n3 c3, r]) w := by
  have hp' : tmps[p]?.getD undef = .pointer (some ⟨b, 0, none⟩) := by simpa using hp
  have hq' : tmps[q]?.getD undef = .pointer (some ⟨g, 0, none⟩) := by simpa using hq
  have hu' : tmps[u]?.getD undef = r := by simpa using hu
  simp [results, h, hp', hq', hu', h0, h1, h2, h3, h4, go_sem]
theorem MkW.drew {W0 : World} {pa bt bl : Nat} {S : Int} {H : List Int} {ah a : Option Addr} {ch ca k wc : Nat} {ls : List Ln} {t : List Int} {vl : Value} {w : World} (h : MkW W0 pa bt bl S H ah a ch ca k wc ls t vl w) : MkW W0 pa bt bl S H ah a ch ca k wc ls t vl w.drew :=
  ⟨h.same.drew, h.drw, h.cab, h.own.drew, h.box, h.hom.kept fun _ _ _ _ => rfl, h.att.kept fun _ _ _ _ => rfl, h.sz, h.o1, h.o2, h.o3⟩
theorem row_of_own {w : World} {a : Option Addr} {l : List Int} {lo c : Nat} (h : w.ownsRow lo 3 1 (.slice a l.length c) l.length (l.map (Value.int .i64))) : RowAt w a l lo w.heap.size := by
  rcases h.2 with ⟨_, h0⟩ | ⟨g, cap, cur, e, hg, hh, _⟩
  · exact .inl h0
  · by_cases h0 : l.length = 0
    · exact .inl h0
    · cases e
      refine .inr ⟨g, cur, rfl, hg, heap_lt hh, hh, fun i hi => ?_⟩
      obtain ⟨g', cap', e', _, _, _, _, hc⟩ := own_cell h (by omega)
      cases e'
      have := hc i (.int .i64 (gi l i)) (by simp [gi, hi])
      rwa [cell_of_heap hh] at this
theorem same_later {M M' : Nat → Prop} {A B C : World} (h : Same M A B) (k : Same M' B C) (hm : ∀ i, M' i → M i ∨ A.heap.size ≤ i) : Same M A C :=
  ⟨k.os.trans h.os, k.tape.trans h.tape, k.output.trans h.output, Nat.le_trans h.size k.size, fun i hi hn => (k.block i (Nat.lt_of_lt_of_le hi h.size) (fun e => by
    rcases hm i e with h' | h'
    · exact hn h'
    · omega)).trans (h.block i hi hn)⟩
/-- Before a loan is made. -/
structure PreW (W0 : World) (pa k : Nat) (S : Int) (vh : Value) (H : List Int) (w : World) : Prop where
  same : Same (fun i => i = pa) W0 w
  drw : w.heap[pa]? = some (.cells #[.int .i64 k] 3 (0, 0))
  cab : w.heap[W0.heap.size]? = some (.cells #[.int .i64 S, vh, .int .i64 0, .slice none 0 0] 25 (0, 0))
  box : w.heap[W0.heap.size + 1]? = some (.cells #[.slice none 0 0] 22 (0, 0))
  own : w.ownsRow (W0.heap.size + 2) 3 1 vh H.length (H.map (Value.int .i64))
  o1 : pa < W0.heap.size
  sz : W0.heap.size + 2 ≤ w.heap.size
section
variable {W0 : World} {pa pb k : Nat} {S : Int} {vh : Value} {H : List Int} {w w' : World}
theorem PreW.drawer (h : PreW W0 pa k S vh H w) {k0 : Nat} (hd : Drawer W0 pa pb k0) : Drawer w pa pb k := by
  refine ⟨h.drw, ?_⟩
  obtain ⟨b, off, cap, l, h1, h2, h3, h4, h5, h6, h7⟩ := hd.by_
  exact ⟨b, off, cap, l, h.same.cell h1 h7, fun i hi => h.same.cell (h2 i hi) h6, h3, h4, h5, h6, h7⟩
theorem pre_draw {k0 : Nat} (hd : Drawer W0 pa pb k0) (m : Int) (hm : 1 ≤ m ∧ m ≤ 1000) (hk : k ≤ 1000) (h : PreW W0 pa k S vh H w) :
    Calls Try.prog 77 #[.int .i64 m, .pointer (some ⟨pa, 0, none⟩), .pointer (some ⟨pb, 0, none⟩)] w fun e w' => ∃ v : Int, e = .returned (.int .i64 v) ∧ 0 ≤ v ∧ v < m ∧ PreW W0 pa (k + 1) S vh H w' := by
  refine (draw_any m hm hk (h.drawer hd)).mono ?_
  rintro e w' ⟨v, h1, h2, h3, h4, hs⟩
  have o1 := h.o1
  have hk : ∀ i, i ≠ pa → i < w.heap.size → w'.heap[i]? = w.heap[i]? := fun i h1 h2 => hs.block i h2 h1
  exact ⟨v, h1, h2, h3, h.same.trans hs, h4.at_, (hk _ (by omega) (heap_lt h.cab)).trans h.cab, (hk _ (by omega) (heap_lt h.box)).trans h.box, own_same h.own hs (fun i hi => by omega), o1, by have := h.sz; have := hs.size; omega⟩
theorem PreW.setS (h : PreW W0 pa k S vh H w) (S' : Int) : PreW W0 pa k S' vh H (w.setCell ⟨W0.heap.size, 0, none⟩ (.int .i64 S')) := by
  have o1 := h.o1
  have hk : ∀ i, i ≠ W0.heap.size → (w.setCell ⟨W0.heap.size, 0, none⟩ (.int .i64 S')).heap[i]? = w.heap[i]? := fun i h1 => Below.heap_setCell _ _ _ _ h1
  refine ⟨h.same.setCell (.inr (Nat.le_refl _)) _, (hk _ (by omega)).trans h.drw, heap_setCell_at h.cab _, (hk _ (by omega)).trans h.box, ownsRow_setCell_other h.own (fun e => ?_) _, o1, by have := h.sz; simpa using this⟩
  have := (h.own.lt _ e).1
  have e2 : W0.heap.size + 2 ≤ W0.heap.size := this
  omega
theorem PreW.home (h : PreW W0 pa k S vh H w) {vh' : Value} {x : Int} (hown : w'.ownsRow (W0.heap.size + 2) 3 1 vh' (H.length + 1) (H.map (Value.int .i64) ++ [.int .i64 x]))
    (hcab : w'.heap[W0.heap.size]? = some (.cells #[.int .i64 S, vh', .int .i64 0, .slice none 0 0] 25 (0, 0))) (hs : Same (fun k => k = W0.heap.size ∨ vh.ownBlock = some k) w w') : PreW W0 pa k S vh' (H ++ [x]) w' := by
  have o1 := h.o1
  have hlt : ∀ k, vh.ownBlock = some k → W0.heap.size + 2 ≤ k := fun k e => (h.own.lt k e).1
  have hk : ∀ i, i ≠ W0.heap.size → i < W0.heap.size + 2 → i < w.heap.size → w'.heap[i]? = w.heap[i]? := fun i h1 h2 h3 => hs.block i h3 (fun e => by
    rcases e with e | e
    · exact h1 e
    · have := hlt i e; omega)
  refine ⟨same_later h.same hs (fun i e => ?_), (hk _ (by omega) (by omega) (heap_lt h.drw)).trans h.drw, hcab, (hk _ (by omega) (by omega) (heap_lt h.box)).trans h.box, by simpa using hown, o1, by have := h.sz; have := hs.size; omega⟩
  rcases e with e | e
  · exact .inr (by omega)
  · exact .inr (by have := hlt i e; omega)
theorem PreW.start {k0 : Nat} (hd : Drawer W0 pa pb k0) : PreW W0 pa k0 0 (.slice none 0 0) [] ((W0.alloc (.cells #[.int .i64 0, .slice none 0 0, .int .i64 0, .slice none 0 0] 25)).alloc (.cells #[.slice none 0 0] 22)) := by
  have hp := heap_lt hd.at_
  refine ⟨((Same.refl _ W0).alloc _).alloc _, ?_, heap_alloc2_0 _ _ _, ?_, ⟨rfl, .inl ⟨rfl, rfl⟩⟩, hp, by simp⟩
  · rw [Below.heap_alloc _ _ _ (by simp; omega), Below.heap_alloc _ _ _ hp]
    exact hd.at_
  · have := World.alloc_heap_new (W0.alloc (.cells #[.int .i64 0, .slice none 0 0, .int .i64 0, .slice none 0 0] 25)) (.cells #[.slice none 0 0] 22)
    rwa [World.size_alloc] at this
/-- The list of where cards are is laid. -/
theorem PreW.made {ah a : Option Addr} {ch ca : Nat} (h : PreW W0 pa k S (.slice ah H.length ch) H w) (hn : w'.ownsRow w.heap.size 3 1 (.slice a H.length ca) H.length (H.map (Value.int .i64))) (hg : w.grownBy w' none) :
    MkW W0 pa w.heap.size w'.heap.size S H ah a ch ca k 0 [] H (.slice none 0 0) (w'.setCell ⟨W0.heap.size + 1, 0, none⟩ (.slice a H.length ca)) := by
  have o1 := h.o1
  have sz := h.sz
  have hz := hg.size
  have hk : ∀ i, i ≠ W0.heap.size + 1 → i < w.heap.size → (w'.setCell ⟨W0.heap.size + 1, 0, none⟩ (.slice a H.length ca)).heap[i]? = w.heap[i]? := fun i h1 h2 => (Below.heap_setCell _ _ _ _ h1).trans (hg.block i h2 (fun e => by cases e))
  have hk' : ∀ i, i ≠ W0.heap.size + 1 → (w'.setCell ⟨W0.heap.size + 1, 0, none⟩ (.slice a H.length ca)).heap[i]? = w'.heap[i]? := fun i h1 => Below.heap_setCell _ _ _ _ h1
  refine ⟨(h.same.grown hg (fun j hj => by cases hj)).setCell (.inr (by show W0.heap.size ≤ W0.heap.size + 1; omega)) _, (hk _ (by omega) (heap_lt h.drw)).trans h.drw, (hk _ (by omega) (heap_lt h.cab)).trans h.cab, ⟨rfl, .inl ⟨rfl, rfl⟩⟩, ?_, ?_, ?_, by simp, o1, sz, hz⟩
  · exact heap_setCell_at ((hg.block _ (heap_lt h.box) (fun e => by cases e)).trans h.box) _
  · exact (row_of_own h.own).kept fun g h1 h2 h3 => hk g (by omega) h3
  · exact (row_of_own hn).kept fun g h1 h2 h3 => hk' g (by omega)
end
/-- What made returns. -/
def MadeP (W0 : World) (pa : Nat) (e : Ending) (w' : World) : Prop :=
  ∃ (c : Cab) (t : List Int) (bs : List Bool) (ah al a : Option Addr) (ch cl ca : Nat), e = .returned (.tuple #[c.v ah ch al cl, .slice a t.length ca, .int .i64 (wN bs : Nat)]) ∧ c.valid = true ∧ (t, bs) ∈ truths c ∧ Given w' c ah ch al cl ∧ IsInts w' a t ∧ Same (fun i => i = pa) W0 w'


noncomputable def reg31C : Code := (Try.f33.body.bind (regionAt 31)).getD .skip
/-- What is known in the midst of the last region but one. -/
structure EndF (W0 : World) (pa pb bt bl : Nat) (S : Int) (H : List Int) (ah a : Option Addr) (ch ca k wc : Nat) (ls : List Ln) (t : List Int) (vl : Value) (v : Nat) (d : Nat → Bool) (x142 x143 x144 x145 x146 x147 x148 : Value) (w : World) : Prop where
  o4 : d 4 = true → d 3 = true ∧ d 1 = true
  o5 : d 5 = true → d 4 = true
  o7 : d 7 = true → d 5 = true ∧ d 6 = true
  v2 : v < 2
  f0 : d 0 = true → x142 = .pointer (some ⟨W0.heap.size, 2, none⟩)
  f1 : d 1 = true → x143 = .int .i64 wc
  f2 : d 2 = true → x144 = .func (.func 77) #[] #[.pointer (some ⟨pa, 0, none⟩), .pointer (some ⟨pb, 0, none⟩)]
  f3 : d 3 = true → x145 = .int .i64 v
  f4 : d 4 = true → x146 = .int .i64 ((wc : Int) + v)
  f5 : d 5 = true → x147 = .int .i64 (min 12 (wc + v) : Nat)
  f6 : d 6 = true → x148 = .pointer (some ⟨W0.heap.size, 2, none⟩)
  m : MkW W0 pa bt bl S H ah a ch ca (if d 3 then k + 1 else k) (if d 7 then min 12 (wc + v) else wc) ls t vl w
section
variable {W0 : World} {pa pb bt bl : Nat} {S : Int} {H : List Int} {ah a : Option Addr} {ch ca k wc : Nat} {ls : List Ln} {t : List Int} {vl : Value} {v : Nat} {d : Nat → Bool} {x142 x143 x144 x145 x146 x147 x148 : Value} {w w' : World}
theorem EndF.s0 (F : EndF W0 pa pb bt bl S H ah a ch ca k wc ls t vl v d x142 x143 x144 x145 x146 x147 x148 w) : EndF W0 pa pb bt bl S H ah a ch ca k wc ls t vl v (upd d 0) (.pointer (some ⟨W0.heap.size, 2, none⟩)) x143 x144 x145 x146 x147 x148 w := ⟨F.o4, F.o5, F.o7, F.v2, fun _ => rfl, F.f1, F.f2, F.f3, F.f4, F.f5, F.f6, F.m⟩
theorem EndF.s1 (F : EndF W0 pa pb bt bl S H ah a ch ca k wc ls t vl v d x142 x143 x144 x145 x146 x147 x148 w) : EndF W0 pa pb bt bl S H ah a ch ca k wc ls t vl v (upd d 1) x142 (.int .i64 wc) x144 x145 x146 x147 x148 w := ⟨fun h => ⟨(F.o4 h).1, rfl⟩, F.o5, F.o7, F.v2, F.f0, fun _ => rfl, F.f2, F.f3, F.f4, F.f5, F.f6, F.m⟩
theorem EndF.s2 (F : EndF W0 pa pb bt bl S H ah a ch ca k wc ls t vl v d x142 x143 x144 x145 x146 x147 x148 w) : EndF W0 pa pb bt bl S H ah a ch ca k wc ls t vl v (upd d 2) x142 x143 (.func (.func 77) #[] #[.pointer (some ⟨pa, 0, none⟩), .pointer (some ⟨pb, 0, none⟩)]) x145 x146 x147 x148 w := ⟨F.o4, F.o5, F.o7, F.v2, F.f0, F.f1, fun _ => rfl, F.f3, F.f4, F.f5, F.f6, F.m⟩
theorem EndF.s6 (F : EndF W0 pa pb bt bl S H ah a ch ca k wc ls t vl v d x142 x143 x144 x145 x146 x147 x148 w) : EndF W0 pa pb bt bl S H ah a ch ca k wc ls t vl v (upd d 6) x142 x143 x144 x145 x146 x147 (.pointer (some ⟨W0.heap.size, 2, none⟩)) w := ⟨F.o4, F.o5, fun h => ⟨(F.o7 h).1, rfl⟩, F.v2, F.f0, F.f1, F.f2, F.f3, F.f4, F.f5, fun _ => rfl, F.m⟩
theorem EndF.s4 (F : EndF W0 pa pb bt bl S H ah a ch ca k wc ls t vl v d x142 x143 x144 x145 x146 x147 x148 w) (h3 : d 3 = true) (h1 : d 1 = true) : EndF W0 pa pb bt bl S H ah a ch ca k wc ls t vl v (upd d 4) x142 x143 x144 x145 (.int .i64 ((wc : Int) + v)) x147 x148 w := ⟨fun _ => ⟨h3, h1⟩, fun _ => rfl, F.o7, F.v2, F.f0, F.f1, F.f2, F.f3, fun _ => rfl, F.f5, F.f6, F.m⟩
theorem EndF.s5 (F : EndF W0 pa pb bt bl S H ah a ch ca k wc ls t vl v d x142 x143 x144 x145 x146 x147 x148 w) (h4 : d 4 = true) : EndF W0 pa pb bt bl S H ah a ch ca k wc ls t vl v (upd d 5) x142 x143 x144 x145 x146 (.int .i64 (min 12 (wc + v) : Nat)) x148 w := ⟨F.o4, fun _ => h4, fun h => ⟨rfl, (F.o7 h).2⟩, F.v2, F.f0, F.f1, F.f2, F.f3, F.f4, fun _ => rfl, F.f6, F.m⟩
theorem EndF.s3 (F : EndF W0 pa pb bt bl S H ah a ch ca k wc ls t vl v d x142 x143 x144 x145 x146 x147 x148 w) (h3 : d 3 = false) {v' : Nat} (hv : v' < 2) (hm : MkW W0 pa bt bl S H ah a ch ca (k + 1) wc ls t vl w') : EndF W0 pa pb bt bl S H ah a ch ca k wc ls t vl v' (upd d 3) x142 x143 x144 (.int .i64 v') x146 x147 x148 w' := by
  have n4 : d 4 = false := by
    cases e : d 4 with
    | false => rfl
    | true => have := (F.o4 e).1; rw [h3] at this; cases this
  have n5 : d 5 = false := by
    cases e : d 5 with
    | false => rfl
    | true => have := F.o5 e; rw [n4] at this; cases this
  have n7 : d 7 = false := by
    cases e : d 7 with
    | false => rfl
    | true => have := (F.o7 e).1; rw [n5] at this; cases this
  refine ⟨fun h => ⟨rfl, (F.o4 h).2⟩, F.o5, F.o7, hv, F.f0, F.f1, F.f2, fun _ => rfl, fun h => ?_, fun h => ?_, F.f6, ?_⟩
  · have h' : d 4 = true := h
    rw [n4] at h'; cases h'
  · have h' : d 5 = true := h
    rw [n5] at h'; cases h'
  · have e7 : upd d 3 7 = false := n7
    have e3 : upd d 3 3 = true := rfl
    rw [e7, e3]
    exact hm
theorem EndF.s7 (F : EndF W0 pa pb bt bl S H ah a ch ca k wc ls t vl v d x142 x143 x144 x145 x146 x147 x148 w) (h5 : d 5 = true) (h6 : d 6 = true) : EndF W0 pa pb bt bl S H ah a ch ca k wc ls t vl v (upd d 7) x142 x143 x144 x145 x146 x147 x148 (w.setCell ⟨W0.heap.size, 2, none⟩ (.int .i64 (min 12 (wc + v) : Nat))) := by
  refine ⟨F.o4, F.o5, fun _ => ⟨h5, h6⟩, F.v2, F.f0, F.f1, F.f2, F.f3, F.f4, F.f5, F.f6, ?_⟩
  have e7 : upd d 7 7 = true := rfl
  rw [e7]
  exact F.m.setWrong (min 12 (wc + v))
end
set_option maxRecDepth 100000 in
set_option maxHeartbeats 4000000 in
theorem reg31 {W0 w : World} {pa pb bt bl : Nat} {S : Int} {H : List Int} {ah a : Option Addr} {ch ca k wc : Nat} {ls : List Ln} {t : List Int} {vl : Value} {Q : Exit → Act → World → Prop} {k0 : Nat} (hd : Drawer W0 pa pb k0) (hM : MkW W0 pa bt bl S H ah a ch ca k wc ls t vl w) (hk : k ≤ 900) (hwc : wc ≤ 12)
    {s1 s4 s5 s6 s7 s9 s10 s11 s12 s13 s14 s15 s16 s17 s18 s19 s20 s21 s22 s23 s24 s25 s26 s27 s28 s29 s30 s31 s32 s33 s34 s35 s36 s37 s38 s39 s40 s41 s42 s43 s44 s45 s46 s47 s48 s49 s50 s51 s52 s53 s54 s55 s56 s57 s58 s59 s60 s61 s62 s63 s64 s65 s66 s67 s68 s69 s70 s71 s72 s73 s74 s75 s76 s77 s78 s79 s80 s81 s82 s83 s84 s85 s86 s87 s88 s89 s90 s91 s92 s93 s94 s95 s96 s97 s98 s99 s100 s101 s102 s103 s104 s105 s106 s107 s108 s109 s110 s111 s112 s113 s114 s115 s116 s117 s118 s119 s120 s121 s122 s123 s124 s125 s126 s127 s128 s129 s130 s131 s132 s133 s134 s135 s136 s137 s138 s139 s140 s141 s142 s143 s144 s145 s146 s147 s148 s149 s150 s151 : Value}
    (hQ : ∀ (v : Nat) (x142 x143 x144 x145 x146 x147 x148 : Value) (w' : World), v < 2 → MkW W0 pa bt bl S H ah a ch ca (k + 1) (min 12 (wc + v)) ls t vl w' → Q .normal { tmps := #[.func (.func 77) #[] #[.pointer (some ⟨pa, 0, none⟩), .pointer (some ⟨pb, 0, none⟩)], s1, .pointer (some ⟨W0.heap.size, 0, none⟩), .pointer (some ⟨W0.heap.size + 1, 0, none⟩), s4, s5, s6, s7, .func (.func 76) #[] #[.pointer (some ⟨W0.heap.size + 1, 0, none⟩)], s9, s10, s11, s12, s13, s14, s15, s16, s17, s18, s19, s20, s21, s22, s23, s24, s25, s26, s27, s28, s29, s30, s31, s32, s33, s34, s35, s36, s37, s38, s39, s40, s41, s42, s43, s44, s45, s46, s47, s48, s49, s50, s51, s52, s53, s54, s55, s56, s57, s58, s59, s60, s61, s62, s63, s64, s65, s66, s67, s68, s69, s70, s71, s72, s73, s74, s75, s76, s77, s78, s79, s80, s81, s82, s83, s84, s85, s86, s87, s88, s89, s90, s91, s92, s93, s94, s95, s96, s97, s98, s99, s100, s101, s102, s103, s104, s105, s106, s107, s108, s109, s110, s111, s112, s113, s114, s115, s116, s117, s118, s119, s120, s121, s122, s123, s124, s125, s126, s127, s128, s129, s130, s131, s132, s133, s134, s135, s136, s137, s138, s139, s140, s141, x142, x143, x144, x145, x146, x147, x148, s149, s150, s151], defers := [] } w') :
    Code.wp Try.prog reg31C Q { tmps := #[.func (.func 77) #[] #[.pointer (some ⟨pa, 0, none⟩), .pointer (some ⟨pb, 0, none⟩)], s1, .pointer (some ⟨W0.heap.size, 0, none⟩), .pointer (some ⟨W0.heap.size + 1, 0, none⟩), s4, s5, s6, s7, .func (.func 76) #[] #[.pointer (some ⟨W0.heap.size + 1, 0, none⟩)], s9, s10, s11, s12, s13, s14, s15, s16, s17, s18, s19, s20, s21, s22, s23, s24, s25, s26, s27, s28, s29, s30, s31, s32, s33, s34, s35, s36, s37, s38, s39, s40, s41, s42, s43, s44, s45, s46, s47, s48, s49, s50, s51, s52, s53, s54, s55, s56, s57, s58, s59, s60, s61, s62, s63, s64, s65, s66, s67, s68, s69, s70, s71, s72, s73, s74, s75, s76, s77, s78, s79, s80, s81, s82, s83, s84, s85, s86, s87, s88, s89, s90, s91, s92, s93, s94, s95, s96, s97, s98, s99, s100, s101, s102, s103, s104, s105, s106, s107, s108, s109, s110, s111, s112, s113, s114, s115, s116, s117, s118, s119, s120, s121, s122, s123, s124, s125, s126, s127, s128, s129, s130, s131, s132, s133, s134, s135, s136, s137, s138, s139, s140, s141, s142, s143, s144, s145, s146, s147, s148, s149, s150, s151], defers := [] } w := by
  have HQ := Lib.hid hQ
  clear hQ
  conv => arg 2; whnf
  refine wp_region_inv mixed (by kernel_rfl) (fun d_ a_ w' => ∃ (v : Nat) (x142 x143 x144 x145 x146 x147 x148 : Value), a_ = { tmps := #[.func (.func 77) #[] #[.pointer (some ⟨pa, 0, none⟩), .pointer (some ⟨pb, 0, none⟩)], s1, .pointer (some ⟨W0.heap.size, 0, none⟩), .pointer (some ⟨W0.heap.size + 1, 0, none⟩), s4, s5, s6, s7, .func (.func 76) #[] #[.pointer (some ⟨W0.heap.size + 1, 0, none⟩)], s9, s10, s11, s12, s13, s14, s15, s16, s17, s18, s19, s20, s21, s22, s23, s24, s25, s26, s27, s28, s29, s30, s31, s32, s33, s34, s35, s36, s37, s38, s39, s40, s41, s42, s43, s44, s45, s46, s47, s48, s49, s50, s51, s52, s53, s54, s55, s56, s57, s58, s59, s60, s61, s62, s63, s64, s65, s66, s67, s68, s69, s70, s71, s72, s73, s74, s75, s76, s77, s78, s79, s80, s81, s82, s83, s84, s85, s86, s87, s88, s89, s90, s91, s92, s93, s94, s95, s96, s97, s98, s99, s100, s101, s102, s103, s104, s105, s106, s107, s108, s109, s110, s111, s112, s113, s114, s115, s116, s117, s118, s119, s120, s121, s122, s123, s124, s125, s126, s127, s128, s129, s130, s131, s132, s133, s134, s135, s136, s137, s138, s139, s140, s141, x142, x143, x144, x145, x146, x147, x148, s149, s150, s151], defers := [] } ∧ EndF W0 pa pb bt bl S H ah a ch ca k wc ls t vl v d_ x142 x143 x144 x145 x146 x147 x148 w') ?_ ?_ ?_
  · refine ⟨0, s142, s143, s144, s145, s146, s147, s148, rfl, (fun h => by cases h), (fun h => by cases h), (fun h => by cases h), by omega, (fun h => by cases h), (fun h => by cases h), (fun h => by cases h), (fun h => by cases h), (fun h => by cases h), (fun h => by cases h), (fun h => by cases h), hM.drew⟩
  · refine ⟨?_, ?_, ?_, ?_, ?_, ?_, ?_, ?_, trivial⟩
    all_goals
      rintro d_ a_ w1 K hd_ hdep ⟨v, x142, x143, x144, x145, x146, x147, x148, rfl, F⟩ HK
      simp [Region.binds] at hdep
      obtain ⟨c0, c1, c2, c3, c4, cf⟩ := F.m.cells
      have hv2 := F.v2
    · have HF := Lib.hid F.s0
      clear F
      go_simp
      exact HK.out _ _ ⟨_, _, _, _, _, _, _, _, rfl, HF.out⟩
    · obtain rfl := F.f0 hdep
      have h7 : d_ 7 = false := by
        cases e : d_ 7 with
        | false => rfl
        | true => have := (F.o4 (F.o5 (F.o7 e).1)).2; rw [show (0 + 1) = 1 from rfl] at hd_; rw [hd_] at this; cases this
      rw [h7] at c2
      have c2' : w1.cell? ⟨W0.heap.size, 2, none⟩ = some (.int .i64 wc) := c2
      clear c2
      have HF := Lib.hid F.s1
      clear F
      go_simp
      exact HK.out _ _ ⟨_, _, _, _, _, _, _, _, rfl, HF.out⟩
    · have HF := Lib.hid F.s2
      clear F
      go_simp
      exact HK.out _ _ ⟨_, _, _, _, _, _, _, _, rfl, HF.out⟩
    · obtain rfl := F.f2 hdep
      have hM1 := F.m
      have h7 : d_ 7 = false := by
        cases e : d_ 7 with
        | false => rfl
        | true => have := (F.o4 (F.o5 (F.o7 e).1)).1; rw [show (0 + 1 + 1 + 1) = 3 from rfl] at hd_; rw [hd_] at this; cases this
      have h3 : d_ 3 = false := hd_
      rw [h7, h3] at hM1
      have hM2 : MkW W0 pa bt bl S H ah a ch ca k wc ls t vl w1 := hM1
      have HF := Lib.hid F
      clear F c0 c1 c2 c3 c4 cf hM1
      go_simp
      refine (mk_draw hd 2 (by omega) (by omega) hM2).mono ?_
      rintro e w2 ⟨v', rfl, hv0, hv1, hM3, hs1⟩
      obtain ⟨v', rfl⟩ := Int.eq_ofNat_of_zero_le hv0
      exact HK.out _ _ ⟨v', _, _, _, _, _, _, _, rfl, HF.out.s3 h3 (by omega) hM3⟩
    · obtain rfl := F.f1 hdep.1
      obtain rfl := F.f3 hdep.2
      have HF := Lib.hid (F.s4 hdep.2 hdep.1)
      have y1 : IntKind.i64.wrap ((wc : Int) + v) = (wc : Int) + v := IntWalk.i64_in _ (by omega)
      clear F
      go_simp
      exact HK.out _ _ ⟨_, _, _, _, _, _, _, _, rfl, HF.out⟩
    · obtain rfl := F.f4 hdep
      have HF := Lib.hid (F.s5 hdep)
      have hmin : (if (wc : Int) + v < 12 then (wc : Int) + v else 12) = ((min 12 (wc + v) : Nat) : Int) := by split <;> omega
      have HMIN := Lib.hid hmin
      clear F hmin
      go_simp
      have HG := HF.out
      rw [← HMIN.out] at HG
      exact HK.out _ _ ⟨_, _, _, _, _, _, _, _, rfl, HG⟩
    · have HF := Lib.hid F.s6
      clear F
      go_simp
      exact HK.out _ _ ⟨_, _, _, _, _, _, _, _, rfl, HF.out⟩
    · obtain rfl := F.f5 (by simp [hdep])
      obtain rfl := F.f6 (by simp [hdep])
      have HF := Lib.hid (F.s7 (by simp [hdep]) (by simp [hdep]))
      clear F
      go_simp
      exact HK.out _ _ ⟨_, _, _, _, _, _, _, _, rfl, HF.out⟩
  · rintro d_ a_ w1 hall ⟨v, x142, x143, x144, x145, x146, x147, x148, rfl, F⟩
    have hall' : ∀ k, k < 8 → d_ k = true := hall
    have hm := F.m
    rw [hall' 7 (by decide), hall' 3 (by decide)] at hm
    exact HQ.out v _ _ _ _ _ _ _ w1 F.v2 hm

noncomputable def c31C : Code := (Try.f33.body.bind (fromR 31)).getD .skip

set_option maxRecDepth 100000 in
set_option maxHeartbeats 4000000 in
theorem reg31E {W0 w : World} {pa pb bt bl : Nat} {S : Int} {H : List Int} {ah a : Option Addr} {ch ca k wc : Nat} {ls : List Ln} {t : List Int} {vl : Value} {k0 : Nat} (hd : Drawer W0 pa pb k0) {bs : List Bool} (hM : MkW W0 pa bt bl S H ah a ch ca k wc ls t vl w) (hk : k ≤ 900) (hh : HomesOk S H) (hm : Made S H ls t bs) (hl : ls.length ≤ 12) (hwc : wc = wrongs bs)
    {s1 s5 s6 s7 s9 s10 s11 s12 s13 s14 s15 s16 s17 s18 s19 s20 s21 s22 s23 s24 s25 s26 s27 s28 s29 s30 s31 s32 s33 s34 s35 s36 s37 s38 s39 s40 s41 s42 s43 s44 s45 s46 s47 s48 s49 s50 s51 s52 s53 s54 s55 s56 s57 s58 s59 s60 s61 s62 s63 s64 s65 s66 s67 s68 s69 s70 s71 s72 s73 s74 s75 s76 s77 s78 s79 s80 s81 s82 s83 s84 s85 s86 s87 s88 s89 s90 s91 s92 s93 s94 s95 s96 s97 s98 s99 s100 s101 s102 s103 s104 s105 s106 s107 s108 s109 s110 s111 s112 s113 s114 s115 s116 s117 s118 s119 s120 s121 s122 s123 s124 s125 s126 s127 s128 s129 s130 s131 s132 s133 s134 s135 s136 s137 s138 s139 s140 s141 s142 s143 s144 s145 s146 s147 s148 s149 s150 s151 : Value} :
    Code.wp Try.prog c31C (bodyPost Try.prog Try.f33 (MadeP W0 pa)) { tmps := #[.func (.func 77) #[] #[.pointer (some ⟨pa, 0, none⟩), .pointer (some ⟨pb, 0, none⟩)], s1, .pointer (some ⟨W0.heap.size, 0, none⟩), .pointer (some ⟨W0.heap.size + 1, 0, none⟩), .int .i64 (wN bs : Nat), s5, s6, s7, .func (.func 76) #[] #[.pointer (some ⟨W0.heap.size + 1, 0, none⟩)], s9, s10, s11, s12, s13, s14, s15, s16, s17, s18, s19, s20, s21, s22, s23, s24, s25, s26, s27, s28, s29, s30, s31, s32, s33, s34, s35, s36, s37, s38, s39, s40, s41, s42, s43, s44, s45, s46, s47, s48, s49, s50, s51, s52, s53, s54, s55, s56, s57, s58, s59, s60, s61, s62, s63, s64, s65, s66, s67, s68, s69, s70, s71, s72, s73, s74, s75, s76, s77, s78, s79, s80, s81, s82, s83, s84, s85, s86, s87, s88, s89, s90, s91, s92, s93, s94, s95, s96, s97, s98, s99, s100, s101, s102, s103, s104, s105, s106, s107, s108, s109, s110, s111, s112, s113, s114, s115, s116, s117, s118, s119, s120, s121, s122, s123, s124, s125, s126, s127, s128, s129, s130, s131, s132, s133, s134, s135, s136, s137, s138, s139, s140, s141, s142, s143, s144, s145, s146, s147, s148, s149, s150, s151], defers := [] } w := by
  have hbl := hm.len
  have hwc12 : wc ≤ 12 := by have := wrongs_le bs; omega
  conv => arg 2; whnf
  refine wp_seq_hid ?_
  intro K1 HK1
  refine reg31 hd hM hk hwc12 ?_
  intro v x142 x143 x144 x145 x146 x147 x148 w1 hv hM1
  refine HK1.out _ _ ?_
  obtain ⟨av, cv, rfl, hcv, _⟩ := own_slice hM1.own
  refine wp_seq_hid ?_
  intro K2 HK2
  refine reg32 (S := S) (wc := (min 12 (wc + v) : Nat)) (a1 := ah) (n1 := H.length) (c1 := ch) (a3 := av) (n3 := ls.length) (c3 := cv) (a4 := a) (n4 := t.length) (c4 := ca) rfl rfl rfl rfl rfl hM1.cab hM1.box ?_
  intro x149 x150 x151 w2 hb1 hb2 hs
  refine HK2.out _ _ ?_
  have o2 := hM1.o2
  have o3 := hM1.o3
  have hk2 : ∀ g, W0.heap.size + 2 ≤ g → g < w1.heap.size → w2.heap[g]? = w1.heap[g]? := fun g h1 h2 => hs.block g h2 (fun e => by rcases e with e | e <;> omega)
  obtain ⟨hval, htr⟩ := hm.cab hh hl (w := (min 12 (wc + v) : Nat)) (by omega) (by omega)
  have hh5 := hh.len
  have hgiv : Given w2 (Cab.mk S H (min 12 (wc + v) : Nat) ls) ah ch av cv := by
    refine ⟨(hM1.hom.kept fun g h1 h2 h3 => hk2 g h1 h3).ints, ?_, by show H.length ≤ 16; omega, by show ls.length ≤ 30; omega, hcv⟩
    by_cases h0 : ls.length = 0
    · intro j hj
      have hj' : j < ls.length := hj
      omega
    · obtain ⟨g, cap, he, _, _, _, _, hcs⟩ := own_cell (own_same hM1.own hs (fun i hi e => by rcases e with e | e <;> omega)) (by omega)
      cases he
      exact loans_of_cells hcs
  have hat : IsInts w2 a t := (hM1.att.kept fun g h1 h2 h3 => hk2 g (by omega) h3).ints
  have hsame : Same (fun i => i = pa) W0 w2 := same_later hM1.same hs (fun i e => .inr (by rcases e with e | e <;> omega))
  have HP : Hid (MadeP W0 pa (.returned (.tuple #[.agg #[.int .i64 S, .slice ah H.length ch, .int .i64 (min 12 (wc + v) : Nat), .slice av ls.length cv], .slice a t.length ca, .int .i64 (wN bs : Nat)])) w2) :=
    ⟨_, t, bs, ah, av, a, ch, cv, ca, rfl, hval, htr, hgiv, hat, hsame⟩
  have k0 : w2.cell? ⟨W0.heap.size, 0, none⟩ = some (.int .i64 S) := by rw [cell_of_heap hb1]; rfl
  have k1 : w2.cell? ⟨W0.heap.size, 1, none⟩ = some (.slice ah H.length ch) := by rw [cell_of_heap hb1]; rfl
  have k2 : w2.cell? ⟨W0.heap.size, 2, none⟩ = some (.int .i64 (min 12 (wc + v) : Nat)) := by rw [cell_of_heap hb1]; rfl
  have k3 : w2.cell? ⟨W0.heap.size, 3, none⟩ = some (.slice av ls.length cv) := by rw [cell_of_heap hb1]; rfl
  have k4 : w2.cell? ⟨W0.heap.size + 1, 0, none⟩ = some (.slice a t.length ca) := by rw [cell_of_heap hb2]; rfl
  refine wp_ret ?_
  exact bodyPost_ret (v := .tuple #[.agg #[.int .i64 S, .slice ah H.length ch, .int .i64 (min 12 (wc + v) : Nat), .slice av ls.length cv], .slice a t.length ca, .int .i64 (wN bs : Nat)]) (res_made rfl _ rfl rfl rfl k0 k1 k2 k3 k4) rfl HP.out

noncomputable def c11C : Code := (Try.f33.body.bind (fromR 11)).getD .skip

set_option maxRecDepth 100000 in
set_option maxHeartbeats 4000000 in
theorem reg11E {W0 w : World} {pa pb bt bl : Nat} {S : Int} {H : List Int} {ah a : Option Addr} {ch ca k : Nat} {k0 : Nat} (hd : Drawer W0 pa pb k0) (hM : MkW W0 pa bt bl S H ah a ch ca k 0 [] H (.slice none 0 0) w) (hk : k ≤ 100) (hh : HomesOk S H)
    {s1 s6 s7 s9 s10 s11 s12 s13 s14 s15 s16 s17 s18 s19 s20 s21 s22 s23 s24 s25 s26 s27 s28 s29 s30 s31 s32 s33 s34 s35 s36 s37 s38 s39 s40 s41 s42 s43 s44 s45 s46 s47 s48 s49 s50 s51 s52 s53 s54 s55 s56 s57 s58 s59 s60 s61 s62 s63 s64 s65 s66 s67 s68 s69 s70 s71 s72 s73 s74 s75 s76 s77 s78 s79 s80 s81 s82 s83 s84 s85 s86 s87 s88 s89 s90 s91 s92 s93 s94 s95 s96 s97 s98 s99 s100 s101 s102 s103 s104 s105 s106 s107 s108 s109 s110 s111 s112 s113 s114 s115 s116 s117 s118 s119 s120 s121 s122 s123 s124 s125 s126 s127 s128 s129 s130 s131 s132 s133 s134 s135 s136 s137 s138 s139 s140 s141 s142 s143 s144 s145 s146 s147 s148 s149 s150 s151 : Value} :
    Code.wp Try.prog c11C (bodyPost Try.prog Try.f33 (MadeP W0 pa)) { tmps := #[.func (.func 77) #[] #[.pointer (some ⟨pa, 0, none⟩), .pointer (some ⟨pb, 0, none⟩)], s1, .pointer (some ⟨W0.heap.size, 0, none⟩), .pointer (some ⟨W0.heap.size + 1, 0, none⟩), .int .i64 0, .int .i64 (H.length : Nat), s6, s7, .func (.func 76) #[] #[.pointer (some ⟨W0.heap.size + 1, 0, none⟩)], s9, s10, s11, s12, s13, s14, s15, s16, s17, s18, s19, s20, s21, s22, s23, s24, s25, s26, s27, s28, s29, s30, s31, s32, s33, s34, s35, s36, s37, s38, s39, s40, s41, s42, s43, s44, s45, s46, s47, s48, s49, s50, s51, s52, s53, s54, s55, s56, s57, s58, s59, s60, s61, s62, s63, s64, s65, s66, s67, s68, s69, s70, s71, s72, s73, s74, s75, s76, s77, s78, s79, s80, s81, s82, s83, s84, s85, s86, s87, s88, s89, s90, s91, s92, s93, s94, s95, s96, s97, s98, s99, s100, s101, s102, s103, s104, s105, s106, s107, s108, s109, s110, s111, s112, s113, s114, s115, s116, s117, s118, s119, s120, s121, s122, s123, s124, s125, s126, s127, s128, s129, s130, s131, s132, s133, s134, s135, s136, s137, s138, s139, s140, s141, s142, s143, s144, s145, s146, s147, s148, s149, s150, s151], defers := [] } w := by
  have HM := Lib.hid hM
  clear hM
  conv => arg 2; whnf
  refine wp_seq_hid ?_
  intro K1 HK1
  go_wp2_with fail
  refine (mk_draw hd 13 (by omega) (by omega) HM.out).mono ?_
  rintro e w1 ⟨n, rfl, hn0, hn1, hM1, _⟩
  obtain ⟨n, rfl⟩ := Int.eq_ofNat_of_zero_le hn0
  have HM1 := Lib.hid hM1
  clear hM1
  go_wp2_with fail
  go_loopw [4, 48] (fun q i wr => ∃ (j k' : Nat) (ls : List Ln) (bs : List Bool) (t : List Int) (vl : Value), j ≤ n ∧ i = .int .i64 j ∧ q = .int .i64 (wN bs : Nat) ∧ Hid (ls.length = j) ∧ k' ≤ 101 + 6 * j ∧ Hid (MkW W0 pa bt bl S H ah a ch ca k' (wrongs bs) ls t vl wr) ∧ Hid (Made S H ls t bs)) (fun _ i _ => n - (intOf i).toNat)
  case atStart => exact ⟨0, k + 1, [], [], H, .slice none 0 0, by omega, rfl, rfl, rfl, by omega, HM1.out, Made.start S H⟩
  case round =>
    obtain ⟨j, k', ls, bs, t, vl, hj, rfl, rfl, HL, hk', HM, HMD⟩ := hrel
    by_cases hlt : j < n
    · go_upto_block 3 with fail
      refine wp_block ?_
      refine reg13 (L := 0) hd hh HMD.out HM.out (by omega) (by have := HL.out; omega) rfl ?_
      intro x9 x10 x50 x51 x52 x53 x54 x55 x56 x57 x58 x59 x60 x61 x62 x63 x64 x65 x66 x67 x68 x69 x70 x71 x72 x73 x74 x75 x76 x77 x78 x79 x80 x81 x82 x83 x84 x85 x86 x87 x88 x89 x90 x91 x92 x93 x94 x95 x96 x97 x98 x99 x100 x101 x102 x103 x104 x105 x106 x107 x108 x109 x110 x111 x112 x113 x114 x115 x116 x117 x118 x119 x120 x121 x122 x123 x124 x125 x126 x127 x128 x129 x130 x131 x132 x133 x134 x135 x136 x137 x138 x139 x140 k2 N' wc' ls' bs' t' v' w' h1 h2 h3 h4 h5 h6
      have HR := Lib.hid (And.intro h2 (And.intro h3 (And.intro h4 (And.intro h5 h6))))
      clear h2 h3 h4 h5 h6
      go_wp2_with fail
      go_roundw
      case rel =>
        obtain ⟨rfl, rfl, h4, h5, h6⟩ := HR.out
        exact ⟨j + 1, k2, ls', bs', t', v', by omega, by go_num, rfl, by rw [Hid, h4, HL.out], by omega, h5, h6⟩
      case measure => simp [intOf]; omega
    · go_wp2_with fail
      refine HK1.out _ _ ?_
      exact reg31E hd HM.out (by omega) hh HMD.out (by have := HL.out; omega) rfl

noncomputable def c9C : Code := (Try.f33.body.bind (fromR 9)).getD .skip

set_option maxRecDepth 100000 in
set_option maxHeartbeats 4000000 in
theorem reg9E {W0 w : World} {pa pb k k0 : Nat} {S : Int} {H : List Int} (hd : Drawer W0 pa pb k0) {vh : Value} (hM : PreW W0 pa k S vh H w) (hk : k ≤ 100) (hh : HomesOk S H)
    {s1 s6 s7 s8 s9 s10 s11 s12 s13 s14 s15 s16 s17 s18 s19 s20 s21 s22 s23 s24 s25 s26 s27 s28 s29 s30 s31 s32 s33 s34 s35 s36 s37 s38 s39 s40 s41 s42 s43 s44 s45 s46 s47 s48 s49 s50 s51 s52 s53 s54 s55 s56 s57 s58 s59 s60 s61 s62 s63 s64 s65 s66 s67 s68 s69 s70 s71 s72 s73 s74 s75 s76 s77 s78 s79 s80 s81 s82 s83 s84 s85 s86 s87 s88 s89 s90 s91 s92 s93 s94 s95 s96 s97 s98 s99 s100 s101 s102 s103 s104 s105 s106 s107 s108 s109 s110 s111 s112 s113 s114 s115 s116 s117 s118 s119 s120 s121 s122 s123 s124 s125 s126 s127 s128 s129 s130 s131 s132 s133 s134 s135 s136 s137 s138 s139 s140 s141 s142 s143 s144 s145 s146 s147 s148 s149 s150 s151 : Value} :
    Code.wp Try.prog c9C (bodyPost Try.prog Try.f33 (MadeP W0 pa)) { tmps := #[.func (.func 77) #[] #[.pointer (some ⟨pa, 0, none⟩), .pointer (some ⟨pb, 0, none⟩)], s1, .pointer (some ⟨W0.heap.size, 0, none⟩), .pointer (some ⟨W0.heap.size + 1, 0, none⟩), .int .i64 0, .int .i64 (H.length : Nat), s6, s7, s8, s9, s10, s11, s12, s13, s14, s15, s16, s17, s18, s19, s20, s21, s22, s23, s24, s25, s26, s27, s28, s29, s30, s31, s32, s33, s34, s35, s36, s37, s38, s39, s40, s41, s42, s43, s44, s45, s46, s47, s48, s49, s50, s51, s52, s53, s54, s55, s56, s57, s58, s59, s60, s61, s62, s63, s64, s65, s66, s67, s68, s69, s70, s71, s72, s73, s74, s75, s76, s77, s78, s79, s80, s81, s82, s83, s84, s85, s86, s87, s88, s89, s90, s91, s92, s93, s94, s95, s96, s97, s98, s99, s100, s101, s102, s103, s104, s105, s106, s107, s108, s109, s110, s111, s112, s113, s114, s115, s116, s117, s118, s119, s120, s121, s122, s123, s124, s125, s126, s127, s128, s129, s130, s131, s132, s133, s134, s135, s136, s137, s138, s139, s140, s141, s142, s143, s144, s145, s146, s147, s148, s149, s150, s151], defers := [] } w := by
  have hmf : ∀ (fn : Fn) (first cap : Array Value) (w : World), (Instr.makeFunc fn first cap).run Try.prog w = .ok (.func fn first cap) w := fun _ _ _ _ => rfl
  obtain ⟨i0, hi0, hz0, hz1, hz2⟩ := info_parts infoI
  have hh5 := hh.len
  obtain ⟨ah, ch, rfl, _, _⟩ := own_slice hM.own
  have hnil : w.ownsRow w.heap.size 3 1 (.slice none 0 0) 0 [] := ⟨rfl, .inl ⟨rfl, rfl⟩⟩
  obtain ⟨v', w', hr, hn, hg⟩ := append_rows (P := Try.prog) w.heap.size 22 22 3 i0 _ 1 8 Try.underlying22 hi0 hz0 hz1 hz2 rfl (by decide) _ _ _ hnil ah H.length ch (H.map (Value.int .i64)) (by simp) (fun h0 => by
    obtain ⟨g, cap, e, _, _, _, _, hc⟩ := own_cell hM.own (by omega)
    cases e
    refine ⟨_, rfl, fun j u hj => ?_⟩
    have e : ((⟨g, 0, none⟩ : Addr).add j) = ⟨g, j, none⟩ := by unfold Addr.add; split <;> simp_all
    rw [e]
    exact hc j u hj) (by intro u hu; simp at hu; obtain ⟨x, _, rfl⟩ := hu; rfl) (by simp [maxLen]; omega) (by omega) (Nat.le_refl _)
  rw [Nat.zero_add, List.nil_append] at hn
  have hb0 : w.cell? ⟨W0.heap.size + 1, 0, none⟩ = some (.slice none 0 0) := by rw [cell_of_heap hM.box]; rfl
  have hb1 : w.cell? ⟨W0.heap.size, 1, none⟩ = some (.slice ah H.length ch) := by rw [cell_of_heap hM.cab]; rfl
  have hbx := (hg.block _ (heap_lt hM.box) (fun e => by cases e)).trans hM.box
  have hb2 : w'.cell? ⟨W0.heap.size + 1, 0, none⟩ = some (.slice none 0 0) := by rw [cell_of_heap hbx]; rfl
  have hb3 : w'.frozen? ⟨W0.heap.size + 1, 0, none⟩ = false := frozen_of_heap hbx
  obtain ⟨a, ca, rfl, _, _⟩ := own_slice hn
  have HM := Lib.hid (hM.made hn hg)
  have HR := Lib.hid hr
  clear hM hn hg hr hbx hi0 hz0 hz1 hz2 hnil
  conv => arg 2; whnf
  refine wp_seq_hid ?_
  intro K1 HK1
  go_wp2_with (at_builtin; refine wpList_append_run rfl (.tmp 41) (.tmp 43) 22 rfl _ _ _ _ rfl rfl HR.out ?_)
  refine HK1.out _ _ ?_
  refine wp_seq_hid ?_
  intro K2 HK2
  clear hb0 hb1 hb2 hb3
  go_wp2_with fail
  refine HK2.out _ _ ?_
  exact reg11E hd HM.out hk hh


def homesL (S turn : Int) (i : Nat) : List Int := (List.range i).map fun (j : Nat) => ((j : Int) + turn) % S
theorem homesL_len (S turn : Int) (i : Nat) : (homesL S turn i).length = i := by simp [homesL]
theorem homesL_succ (S turn : Int) (i : Nat) : homesL S turn (i + 1) = homesL S turn i ++ [((i : Int) + turn) % S] := by simp [homesL, List.range_succ]
theorem homesL_gi {S turn : Int} {i j : Nat} (h : j < i) : gi (homesL S turn i) j = ((j : Int) + turn) % S := by simp [homesL, gi, h]
theorem mod_inj {S a b : Int} (h0 : 0 ≤ a) (h1 : a < S) (h2 : 0 ≤ b) (h3 : b < S) {turn : Int} (h : (a + turn) % S = (b + turn) % S) : a = b := by
  have e := Int.emod_emod_of_dvd (a + turn - (b + turn)) (Int.dvd_refl S)
  have h5 : (a + turn - (b + turn)) % S = 0 := by rw [Int.sub_emod, h]; simp
  have h6 : (a - b) % S = 0 := by have e2 : a + turn - (b + turn) = a - b := by omega
                                  rw [← e2]; exact h5
  obtain ⟨q, hq⟩ := Int.dvd_of_emod_eq_zero h6
  rcases Int.lt_trichotomy q 0 with h7 | h7 | h7
  · have : S * q ≤ S * (-1) := Int.mul_le_mul_of_nonneg_left (by omega) (by omega)
    omega
  · subst h7; simp at hq; omega
  · have : S * 1 ≤ S * q := Int.mul_le_mul_of_nonneg_left (by omega) (by omega)
    omega
theorem homesL_ok {S turn : Int} {n : Nat} (h0 : 1 ≤ S) (h1 : S ≤ 6) (h2 : n ≤ 5) (h3 : (n : Int) ≤ S) : HomesOk S (homesL S turn n) := by
  refine ⟨h0, h1, by rw [homesL_len]; exact h2, by rw [homesL_len]; exact h3, fun k hk => ?_, fun i j hi hj h => ?_⟩
  · rw [homesL_len] at hk
    rw [homesL_gi hk]
    exact ⟨Int.emod_nonneg _ (by omega), Int.emod_lt_of_pos _ (by omega)⟩
  · rw [homesL_len] at hi hj
    rw [homesL_gi hi, homesL_gi hj] at h
    have := mod_inj (by omega) (by omega) (by omega) (by omega) h
    omega

noncomputable def c4C : Code := (Try.f33.body.bind (fromR 4)).getD .skip

set_option maxRecDepth 100000 in
set_option maxHeartbeats 4000000 in
theorem reg4E {W0 w : World} {pa pb k k0 : Nat} {S : Int} (hd : Drawer W0 pa pb k0) {n : Nat} {turn : Int} (hM : PreW W0 pa k S (.slice none 0 0) [] w) (hk : k ≤ 100) (hS : 1 ≤ S ∧ S ≤ 6) (hn : n ≤ 5) (hnS : (n : Int) ≤ S) (ht : 0 ≤ turn ∧ turn ≤ 6)
    {s1 s7 s8 s9 s10 s11 s12 s13 s14 s15 s16 s17 s18 s19 s20 s21 s22 s23 s24 s25 s26 s27 s28 s29 s30 s31 s32 s33 s34 s35 s36 s37 s38 s39 s40 s41 s42 s43 s44 s45 s46 s47 s48 s49 s50 s51 s52 s53 s54 s55 s56 s57 s58 s59 s60 s61 s62 s63 s64 s65 s66 s67 s68 s69 s70 s71 s72 s73 s74 s75 s76 s77 s78 s79 s80 s81 s82 s83 s84 s85 s86 s87 s88 s89 s90 s91 s92 s93 s94 s95 s96 s97 s98 s99 s100 s101 s102 s103 s104 s105 s106 s107 s108 s109 s110 s111 s112 s113 s114 s115 s116 s117 s118 s119 s120 s121 s122 s123 s124 s125 s126 s127 s128 s129 s130 s131 s132 s133 s134 s135 s136 s137 s138 s139 s140 s141 s142 s143 s144 s145 s146 s147 s148 s149 s150 s151 : Value} :
    Code.wp Try.prog c4C (bodyPost Try.prog Try.f33 (MadeP W0 pa)) { tmps := #[.func (.func 77) #[] #[.pointer (some ⟨pa, 0, none⟩), .pointer (some ⟨pb, 0, none⟩)], s1, .pointer (some ⟨W0.heap.size, 0, none⟩), .pointer (some ⟨W0.heap.size + 1, 0, none⟩), .int .i64 0, .int .i64 (n : Nat), .int .i64 turn, s7, s8, s9, s10, s11, s12, s13, s14, s15, s16, s17, s18, s19, s20, s21, s22, s23, s24, s25, s26, s27, s28, s29, s30, s31, s32, s33, s34, s35, s36, s37, s38, s39, s40, s41, s42, s43, s44, s45, s46, s47, s48, s49, s50, s51, s52, s53, s54, s55, s56, s57, s58, s59, s60, s61, s62, s63, s64, s65, s66, s67, s68, s69, s70, s71, s72, s73, s74, s75, s76, s77, s78, s79, s80, s81, s82, s83, s84, s85, s86, s87, s88, s89, s90, s91, s92, s93, s94, s95, s96, s97, s98, s99, s100, s101, s102, s103, s104, s105, s106, s107, s108, s109, s110, s111, s112, s113, s114, s115, s116, s117, s118, s119, s120, s121, s122, s123, s124, s125, s126, s127, s128, s129, s130, s131, s132, s133, s134, s135, s136, s137, s138, s139, s140, s141, s142, s143, s144, s145, s146, s147, s148, s149, s150, s151], defers := [] } w := by
  have HM := Lib.hid hM
  clear hM
  conv => arg 2; whnf
  refine wp_seq_hid ?_
  intro K1 HK1
  go_wp2_with fail
  go_loopw [26] (fun i wr => ∃ (j : Nat) (vh : Value), j ≤ n ∧ i = .int .i64 j ∧ Hid (PreW W0 pa k S vh (homesL S turn j) wr)) (fun i _ => n - (intOf i).toNat)
  case atStart => exact ⟨0, .slice none 0 0, by omega, rfl, HM.out⟩
  case round =>
    obtain ⟨j, vh, hj, rfl, HM⟩ := hrel
    by_cases hlt : j < n
    · go_upto_region 7 with fail
      refine reg7 (bh := W0.heap.size + 2) (H := homesL S turn j) (i := j) hS (by omega) ht (by have := HM.out.own; rw [homesL_len] at this; exact this) HM.out.sz HM.out.cab ?_
      intro x29 x30 x31 x32 x33 x34 x35 x36 x37 x38 x39 v w' hown hcab hs
      have HN : Hid (PreW W0 pa k S v (homesL S turn (j + 1)) w') := by
        rw [Hid, homesL_succ]
        exact HM.out.home (by rw [homesL_len]; exact hown) hcab hs
      clear hown hcab hs
      go_wp2_with fail
      go_roundw
      case rel => exact ⟨j + 1, v, by omega, by go_num, HN⟩
      case measure => simp [intOf]; omega
    · obtain rfl : j = n := by omega
      go_wp2_with fail
      refine HK1.out _ _ ?_
      have hx := @reg9E
      have hok : HomesOk S (homesL S turn j) := homesL_ok hS.1 hS.2 hn hnS
      have e := homesL_len S turn j
      have := @reg9E W0 wr pa pb k k0 S (homesL S turn j) hd vh HM.out hk hok
      rw [e] at this
      exact this

noncomputable def c3C : Code := (Try.f33.body.bind (fromR 3)).getD .skip

set_option maxRecDepth 100000 in
set_option maxHeartbeats 4000000 in
theorem reg3E {W0 w : World} {pa pb k k0 : Nat} {S : Int} (hd : Drawer W0 pa pb k0) {n : Nat} (hM : PreW W0 pa k S (.slice none 0 0) [] w) (hk : k ≤ 90) (hS : 1 ≤ S ∧ S ≤ 6) (hn : n ≤ 5) (hnS : (n : Int) ≤ S)
    {s1 s6 s7 s8 s9 s10 s11 s12 s13 s14 s15 s16 s17 s18 s19 s20 s21 s22 s23 s24 s25 s26 s27 s28 s29 s30 s31 s32 s33 s34 s35 s36 s37 s38 s39 s40 s41 s42 s43 s44 s45 s46 s47 s48 s49 s50 s51 s52 s53 s54 s55 s56 s57 s58 s59 s60 s61 s62 s63 s64 s65 s66 s67 s68 s69 s70 s71 s72 s73 s74 s75 s76 s77 s78 s79 s80 s81 s82 s83 s84 s85 s86 s87 s88 s89 s90 s91 s92 s93 s94 s95 s96 s97 s98 s99 s100 s101 s102 s103 s104 s105 s106 s107 s108 s109 s110 s111 s112 s113 s114 s115 s116 s117 s118 s119 s120 s121 s122 s123 s124 s125 s126 s127 s128 s129 s130 s131 s132 s133 s134 s135 s136 s137 s138 s139 s140 s141 s142 s143 s144 s145 s146 s147 s148 s149 s150 s151 : Value} :
    Code.wp Try.prog c3C (bodyPost Try.prog Try.f33 (MadeP W0 pa)) { tmps := #[.func (.func 77) #[] #[.pointer (some ⟨pa, 0, none⟩), .pointer (some ⟨pb, 0, none⟩)], s1, .pointer (some ⟨W0.heap.size, 0, none⟩), .pointer (some ⟨W0.heap.size + 1, 0, none⟩), .int .i64 0, .int .i64 (n : Nat), s6, s7, s8, s9, s10, s11, s12, s13, s14, s15, s16, s17, s18, s19, s20, s21, s22, s23, s24, s25, s26, s27, s28, s29, s30, s31, s32, s33, s34, s35, s36, s37, s38, s39, s40, s41, s42, s43, s44, s45, s46, s47, s48, s49, s50, s51, s52, s53, s54, s55, s56, s57, s58, s59, s60, s61, s62, s63, s64, s65, s66, s67, s68, s69, s70, s71, s72, s73, s74, s75, s76, s77, s78, s79, s80, s81, s82, s83, s84, s85, s86, s87, s88, s89, s90, s91, s92, s93, s94, s95, s96, s97, s98, s99, s100, s101, s102, s103, s104, s105, s106, s107, s108, s109, s110, s111, s112, s113, s114, s115, s116, s117, s118, s119, s120, s121, s122, s123, s124, s125, s126, s127, s128, s129, s130, s131, s132, s133, s134, s135, s136, s137, s138, s139, s140, s141, s142, s143, s144, s145, s146, s147, s148, s149, s150, s151], defers := [] } w := by
  have hc0 : w.cell? ⟨W0.heap.size, 0, none⟩ = some (.int .i64 S) := by rw [cell_of_heap hM.cab]; rfl
  conv => arg 2; whnf
  refine wp_seq_hid ?_
  intro K1 HK1
  go_wp2_with fail
  refine (pre_draw hd S (by omega) (by omega) hM).mono ?_
  rintro e w1 ⟨turn, rfl, ht0, ht1, hP1⟩
  clear hM hc0
  go_wp2_with fail
  refine HK1.out _ _ ?_
  exact reg4E hd hP1 (by omega) hS hn hnS ⟨ht0, by omega⟩

set_option maxRecDepth 100000 in
set_option maxHeartbeats 4000000 in
theorem made_any {w : World} {pa pb k0 : Nat} (hd : Drawer w pa pb k0) (hk : k0 ≤ 50) :
    Calls Try.prog 33 #[.func (.func 77) #[] #[.pointer (some ⟨pa, 0, none⟩), .pointer (some ⟨pb, 0, none⟩)]] w (MadeP w pa) := by
  have HP := Lib.hid (PreW.start hd)
  go_enter Try.func33, Try.ntmps33
  refine wp_seq_hid ?_
  intro K1 HK1
  go_wp2_with fail
  refine HK1.out _ _ ?_
  revert HP
  generalize ((w.alloc (.cells #[.int .i64 0, .slice none 0 0, .int .i64 0, .slice none 0 0] 25)).alloc (.cells #[.slice none 0 0] 22)) = w1
  intro HP
  refine wp_seq_hid ?_
  intro K2 HK2
  go_wp2_with fail
  refine (pre_draw hd 6 (by omega) (by omega) HP.out).mono ?_
  rintro e w2 ⟨v, rfl, hv0, hv1, hP2⟩
  have hc0 : w2.cell? ⟨w.heap.size, 0, none⟩ = some (.int .i64 0) := by rw [cell_of_heap hP2.cab]; rfl
  have hf0 : w2.frozen? ⟨w.heap.size, 0, none⟩ = false := frozen_of_heap hP2.cab
  have HP3 := Lib.hid (hP2.setS (1 + v))
  clear hP2
  go_wp2_with fail
  refine HK2.out _ _ ?_
  clear hc0 hf0
  revert HP3
  generalize (w2.setCell ⟨w.heap.size, 0, none⟩ (.int .i64 (1 + v))) = w3
  intro HP3
  obtain ⟨S, hS⟩ : ∃ S, S = 1 + v := ⟨_, rfl⟩
  rw [← hS] at HP3
  have hS0 : 1 ≤ S := by omega
  have hS1 : S ≤ 6 := by omega
  clear hS
  refine wp_seq_hid ?_
  intro K3 HK3
  have hc0 : w3.cell? ⟨w.heap.size, 0, none⟩ = some (.int .i64 S) := by rw [cell_of_heap HP3.out.cab]; rfl
  by_cases h5 : S ≤ 5
  · go_wp2_with fail
    refine (pre_draw hd (S + 1) (by omega) (by omega) HP3.out).mono ?_
    rintro e w4 ⟨n, rfl, hn0, hn1, hP4⟩
    obtain ⟨n, rfl⟩ := Int.eq_ofNat_of_zero_le hn0
    go_wp2_with fail
    refine HK3.out _ _ ?_
    exact reg3E hd hP4 (by omega) ⟨hS0, hS1⟩ (by omega) (by omega)
  · go_wp2_with fail
    refine (pre_draw hd 6 (by omega) (by omega) HP3.out).mono ?_
    rintro e w4 ⟨n, rfl, hn0, hn1, hP4⟩
    obtain ⟨n, rfl⟩ := Int.eq_ofNat_of_zero_le hn0
    go_wp2_with fail
    refine HK3.out _ _ ?_
    exact reg3E hd hP4 (by omega) ⟨hS0, hS1⟩ (by omega) (by omega)

end Go.Proofs.Ytlhobddaojdnoaa

namespace Go.Proofs.Ytlhobddaojdnoaa
open Go.RowKit
set_option linter.unusedVariables false

theorem bit_val6 (n k : Nat) (hn : n < 2 ^ 62) : bits .and .i64 ((n : Int) / 2 ^ k) 1 = if n.testBit k = true then 1 else 0 := by
  have h1 : ((n : Int) / 2 ^ k) = ((n / 2 ^ k : Nat) : Int) := by simp
  have h2 : n / 2 ^ k < 2 ^ 62 := Nat.lt_of_le_of_lt (Nat.div_le_self _ _) hn
  rw [h1]
  have := and_nat (n / 2 ^ k) 1 h2 (by decide)
  rw [show ((1 : Nat) : Int) = 1 from rfl] at this
  rw [this, Nat.and_one_is_mod, Nat.testBit_eq_decide_div_mod_eq]
  by_cases h : n / 2 ^ k % 2 = 1
  · simp [h]
  · have : n / 2 ^ k % 2 = 0 := by omega
    simp [this]
/-- What the law knows once a cabinet is made. -/
structure TrueW (w w2 : World) (X : Nat) (c : Cab) (t : List Int) (bs : List Bool) (ah al a : Option Addr) (ch cl ca : Nat) : Prop where
  hv : c.valid = true
  htr : (t, bs) ∈ truths c
  hg : Given w2 c ah ch al cl
  ha : IsInts w2 a t
  hB : Below w.heap.size w w2
  hx : w2.heap[X]? = some (.cells (c.cells ah ch al cl) 25 (0, 0))
section
variable {w w2 w3 : World} {X : Nat} {c : Cab} {t : List Int} {bs : List Bool} {ah al a : Option Addr} {ch cl ca : Nat}
theorem TrueW.cells (h : TrueW w w2 X c t bs ah al a ch cl ca) (hb : Below w2.heap.size w2 w3) : w3.cell? ⟨X, 0, none⟩ = some (.int .i64 c.slots) ∧ w3.cell? ⟨X, 1, none⟩ = some (.slice ah c.homes.length ch) ∧
    w3.cell? ⟨X, 2, none⟩ = some (.int .i64 c.wrong) ∧ w3.cell? ⟨X, 3, none⟩ = some (.slice al c.loans.length cl) := by
  have hx := h.hx
  refine ⟨cell_stays hb ?_, cell_stays hb ?_, cell_stays hb ?_, cell_stays hb ?_⟩ <;> (rw [cell_of_heap hx]; rfl)
theorem TrueW.tlen (h : TrueW w w2 X c t bs ah al a ch cl ca) : t.length = c.homes.length := (truth_st h.hv h.htr).len
end

noncomputable def t44C : Code := (Try.f6.body.bind (fromR 44)).getD .skip

set_option maxRecDepth 100000 in
set_option maxHeartbeats 8000000 in
theorem law44 {w w2 w3 : World} {X M : Nat} {c : Cab} {t : List Int} {bs : List Bool} {ah al a : Option Addr} {ch cl ca lo hi : Nat} (hT : TrueW w w2 X c t bs ah al a ch cl ca) (hb : Below w2.heap.size w2 w3) (hm : w2.cell? ⟨M, 0, none⟩ = some (.int .i64 lo) ∧ w2.cell? ⟨M, 1, none⟩ = some (.int .i64 hi)) (hlh : lo ≤ away c t ∧ away c t ≤ hi ∧ hi ≤ 100)
    {s0 s1 s2 s5 s6 s7 s8 s9 s10 s11 s12 s13 s14 s15 s17 s18 s19 s20 s21 s23 s24 s25 s26 s27 s28 s29 s30 s31 s32 s33 s34 s35 s36 s37 s38 s39 s40 s41 s42 s43 s44 s45 s46 s47 s48 s49 s50 s51 s52 s53 s54 s55 s56 s57 s58 s59 s60 s61 s62 s63 s64 s65 s66 s67 s68 s69 s70 s71 s72 s73 s74 s75 s76 s77 s78 s79 s80 s81 s82 s83 s84 s85 s86 s87 s88 s89 s90 s91 s92 s93 s94 s95 s96 s97 s98 s99 s100 s101 s102 s103 s104 s105 s106 s107 s108 s109 s110 s111 s112 s113 s114 s115 s116 s117 s118 s119 s120 s121 s122 s123 s124 s125 s126 s127 s128 s129 s130 s131 s132 s133 s134 s135 s136 s137 s138 s139 s140 s141 s142 s143 s144 s145 s146 s147 s148 s149 s150 s151 s152 s153 s154 s155 s156 s157 s158 s159 s160 s161 s162 s163 s164 s165 s166 s167 s168 s169 s170 s171 s172 s173 s174 s175 s176 s177 s178 s179 s180 s181 s182 s183 s184 s185 s186 s187 s188 s189 s190 s191 s192 s193 s194 s195 s196 s197 s198 s199 s200 s201 s202 s203 s204 s205 s206 s207 s208 s209 s210 s211 s212 s213 s214 s215 s216 s217 s218 s219 s220 s221 s222 s223 s224 s225 s226 s227 s228 s229 s230 s231 s232 s233 s234 s235 s236 s237 s238 s239 s240 s241 s242 s243 s244 s245 s246 s247 s248 s249 s250 : Value} :
    Code.wp Try.prog t44C (bodyPost Try.prog Try.f6 (fun e w' => e = .returned (.bool true) ∧ Below w.heap.size w w')) { tmps := #[s0, s1, s2, .pointer (some ⟨X, 0, none⟩), .slice a t.length ca, s5, s6, s7, s8, s9, s10, s11, s12, s13, s14, s15, .pointer (some ⟨M, 0, none⟩), s17, s18, s19, s20, s21, .int .i64 (away c t : Nat), s23, s24, s25, s26, s27, s28, s29, s30, s31, s32, s33, s34, s35, s36, s37, s38, s39, s40, s41, s42, s43, s44, s45, s46, s47, s48, s49, s50, s51, s52, s53, s54, s55, s56, s57, s58, s59, s60, s61, s62, s63, s64, s65, s66, s67, s68, s69, s70, s71, s72, s73, s74, s75, s76, s77, s78, s79, s80, s81, s82, s83, s84, s85, s86, s87, s88, s89, s90, s91, s92, s93, s94, s95, s96, s97, s98, s99, s100, s101, s102, s103, s104, s105, s106, s107, s108, s109, s110, s111, s112, s113, s114, s115, s116, s117, s118, s119, s120, s121, s122, s123, s124, s125, s126, s127, s128, s129, s130, s131, s132, s133, s134, s135, s136, s137, s138, s139, s140, s141, s142, s143, s144, s145, s146, s147, s148, s149, s150, s151, s152, s153, s154, s155, s156, s157, s158, s159, s160, s161, s162, s163, s164, s165, s166, s167, s168, s169, s170, s171, s172, s173, s174, s175, s176, s177, s178, s179, s180, s181, s182, s183, s184, s185, s186, s187, s188, s189, s190, s191, s192, s193, s194, s195, s196, s197, s198, s199, s200, s201, s202, s203, s204, s205, s206, s207, s208, s209, s210, s211, s212, s213, s214, s215, s216, s217, s218, s219, s220, s221, s222, s223, s224, s225, s226, s227, s228, s229, s230, s231, s232, s233, s234, s235, s236, s237, s238, s239, s240, s241, s242, s243, s244, s245, s246, s247, s248, s249, s250], defers := [] } w3 := by
  obtain ⟨hlo, hhi, h100⟩ := hlh
  have m0 := cell_stays hb hm.1
  have m1 := cell_stays hb hm.2
  have HB := Lib.hid (hT.hB.trans (hb.mono hT.hB.size))
  obtain ⟨A, hA⟩ : ∃ A, away c t = A := ⟨_, rfl⟩
  rw [hA] at hlo hhi ⊢
  clear hA hT hm
  conv => arg 2; whnf
  go_wp2_with fail
  refine (alive_any _).mono ?_
  rintro e w9 ⟨rfl, hb9⟩
  go_wp2
  go_ret
  exact ⟨rfl, bst HB.out hb9⟩

noncomputable def t30C : Code := (Try.f6.body.bind (fromR 30)).getD .skip

set_option maxRecDepth 100000 in
set_option maxHeartbeats 8000000 in
theorem law30 {w w2 w3 : World} {X M : Nat} {c : Cab} {t : List Int} {bs : List Bool} {ah al a : Option Addr} {ch cl ca lo hi : Nat} (hT : TrueW w w2 X c t bs ah al a ch cl ca) (hb : Below w2.heap.size w2 w3) (hm : w2.cell? ⟨M, 0, none⟩ = some (.int .i64 lo) ∧ w2.cell? ⟨M, 1, none⟩ = some (.int .i64 hi)) (hlh : lo ≤ away c t ∧ away c t ≤ hi ∧ hi ≤ 100)
    {s0 s1 s2 s5 s6 s7 s8 s9 s10 s11 s12 s13 s14 s15 s17 s18 s19 s20 s21 s23 s24 s25 s26 s27 s28 s29 s30 s31 s32 s33 s34 s35 s36 s37 s38 s39 s40 s41 s42 s43 s44 s45 s46 s47 s48 s49 s50 s51 s52 s53 s54 s55 s56 s57 s58 s59 s60 s61 s62 s63 s64 s65 s66 s67 s68 s69 s70 s71 s72 s73 s74 s75 s76 s77 s78 s79 s80 s81 s82 s83 s84 s85 s86 s87 s88 s89 s90 s91 s92 s93 s94 s95 s96 s97 s98 s99 s100 s101 s102 s103 s104 s105 s106 s107 s108 s109 s110 s111 s112 s113 s114 s115 s116 s117 s118 s119 s120 s121 s122 s123 s124 s125 s126 s127 s128 s129 s130 s131 s132 s133 s134 s135 s136 s137 s138 s139 s140 s141 s142 s143 s144 s145 s146 s147 s148 s149 s150 s151 s152 s153 s154 s155 s156 s157 s158 s159 s160 s161 s162 s163 s164 s165 s166 s167 s168 s169 s170 s171 s172 s173 s174 s175 s176 s177 s178 s179 s180 s181 s182 s183 s184 s185 s186 s187 s188 s189 s190 s191 s192 s193 s194 s195 s196 s197 s198 s199 s200 s201 s202 s203 s204 s205 s206 s207 s208 s209 s210 s211 s212 s213 s214 s215 s216 s217 s218 s219 s220 s221 s222 s223 s224 s225 s226 s227 s228 s229 s230 s231 s232 s233 s234 s235 s236 s237 s238 s239 s240 s241 s242 s243 s244 s245 s246 s247 s248 s249 s250 : Value} :
    Code.wp Try.prog t30C (bodyPost Try.prog Try.f6 (fun e w' => e = .returned (.bool true) ∧ Below w.heap.size w w')) { tmps := #[s0, s1, s2, .pointer (some ⟨X, 0, none⟩), .slice a t.length ca, s5, s6, s7, s8, s9, s10, s11, s12, s13, s14, s15, .pointer (some ⟨M, 0, none⟩), s17, s18, s19, s20, s21, .int .i64 (away c t : Nat), s23, s24, s25, s26, s27, s28, s29, s30, s31, s32, s33, s34, s35, s36, s37, s38, s39, s40, s41, s42, s43, s44, s45, s46, s47, s48, s49, s50, s51, s52, s53, s54, s55, s56, s57, s58, s59, s60, s61, s62, s63, s64, s65, s66, s67, s68, s69, s70, s71, s72, s73, s74, s75, s76, s77, s78, s79, s80, s81, s82, s83, s84, s85, s86, s87, s88, s89, s90, s91, s92, s93, s94, s95, s96, s97, s98, s99, s100, s101, s102, s103, s104, s105, s106, s107, s108, s109, s110, s111, s112, s113, s114, s115, s116, s117, s118, s119, s120, s121, s122, s123, s124, s125, s126, s127, s128, s129, s130, s131, s132, s133, s134, s135, s136, s137, s138, s139, s140, s141, s142, s143, s144, s145, s146, s147, s148, s149, s150, s151, s152, s153, s154, s155, s156, s157, s158, s159, s160, s161, s162, s163, s164, s165, s166, s167, s168, s169, s170, s171, s172, s173, s174, s175, s176, s177, s178, s179, s180, s181, s182, s183, s184, s185, s186, s187, s188, s189, s190, s191, s192, s193, s194, s195, s196, s197, s198, s199, s200, s201, s202, s203, s204, s205, s206, s207, s208, s209, s210, s211, s212, s213, s214, s215, s216, s217, s218, s219, s220, s221, s222, s223, s224, s225, s226, s227, s228, s229, s230, s231, s232, s233, s234, s235, s236, s237, s238, s239, s240, s241, s242, s243, s244, s245, s246, s247, s248, s249, s250], defers := [] } w3 := by
  have hb0 := Lib.hid hb
  have HT := Lib.hid hT
  have HM := Lib.hid hm
  have HL := Lib.hid hlh
  have HTL := Lib.hid hT.tlen
  have hh5 := valid_homes hT.hv
  have ht5 : t.length ≤ 5 := by rw [HTL.out]; exact hh5
  obtain ⟨vs1, vs2⟩ := valid_slots hT.hv
  have hne := true_ne hT.htr
  have HNE := Lib.hid hne
  obtain ⟨c0, c1, c2, c3⟩ := hT.cells hb
  clear hT hm hlh hne c1 c2 c3
  conv => arg 2; whnf
  refine wp_seq_hid ?_
  intro K1 HK1
  go_wp2_with fail
  clear c0
  go_loopw [194] (fun i wr => ∃ s : Nat, (s : Int) ≤ c.slots ∧ i = .int .i64 s ∧ Below w2.heap.size w2 wr) (fun i _ => c.slots.toNat - (intOf i).toNat)
  case atStart => exact ⟨0, by omega, rfl, hb0.out⟩
  case round =>
    obtain ⟨s, hs, rfl, hbr⟩ := hrel
    obtain ⟨c0, c1, c2, c3⟩ := HT.out.cells hbr
    by_cases hlt : (s : Int) < c.slots
    · have hsl : c.slotOf (s : Int) = true := by unfold Cab.slotOf inR; simp; omega
      have hS := slotL_lt HT.out.hv (s : Int)
      have HSY := Lib.hid (slot_yes HT.out.hv HNE.out hsl)
      have HS62 := Lib.hid hS
      clear hsl hS
      have hg := HT.out.hg.mono hbr
      go_wp2_with fail
      refine (slot_any hg (s : Int)).mono ?_
      rintro e w4 ⟨rfl, hb4⟩
      rw [HSY.out]
      have hb24 : Below w2.heap.size w2 w4 := hbr.trans (hb4.mono hbr.size)
      have HI : Hid (IsInts w4 a t) := HT.out.ha.mono hb24
      clear c0 c1 c2 c3 hg hb4
      go_wp2_with fail
      go_loop [32, 206] (fun q i => ∃ j : Nat, j ≤ t.length ∧ i = .int .i64 j ∧ q = .int .i64 (lastAt t s j)) (fun _ i => t.length - (intOf i).toNat)
      case atStart => exact ⟨0, by omega, rfl, rfl⟩
      case round =>
        obtain ⟨j, hj, rfl, rfl⟩ := hrel
        by_cases hjl : j < t.length
        · obtain ⟨gb, go, hga, hgc⟩ := HI.out j hjl
          subst hga
          have HLA : Hid (lastAt t s (j + 1) = if gi t j = s then (j : Int) else lastAt t s j) := rfl
          by_cases he : gi t j = (s : Int)
          · have heb : (gi t j == (s : Int)) = true := by simpa using he
            have HE := Lib.hid he
            clear he
            go_wp2_with fail
            go_round
            case rel => exact ⟨j + 1, by omega, by go_num, by rw [HLA.out, if_pos HE.out]⟩
            case measure => simp [intOf]; omega
          · have heb : (gi t j == (s : Int)) = false := by simpa using he
            have HE := Lib.hid he
            clear he
            go_wp2_with fail
            go_round
            case rel => exact ⟨j + 1, by omega, by go_num, by rw [HLA.out, if_neg HE.out]⟩
            case measure => simp [intOf]; omega
        · obtain rfl : j = t.length := by omega
          rw [lastAt_lies (truth_st HT.out.hv HT.out.htr) (show (0 : Int) ≤ s by omega)]
          rcases true_slot HT.out.hv HT.out.htr (s : Int) with ⟨h1, h2⟩ | ⟨kc, h1, h2, h3⟩
          · rw [h1, h2]
            go_wp2_with fail
            all_goals try refine ⟨fun _ _ => trivial, ?_⟩
            all_goals try go_wp2_with fail
            go_roundw
            case rel => exact ⟨s + 1, by omega, by go_num, hb24⟩
            case measure => simp [intOf]; omega
          · rw [h1]
            obtain ⟨Z, hZ⟩ : ∃ Z, setL (slotL c (s : Int)) = Z := ⟨_, rfl⟩
            have hbt := bit_val6 Z kc (by rw [← hZ]; exact HS62.out)
            rw [← hZ, if_pos h3] at hbt
            rw [hZ] at hbt ⊢
            have hk0 : ((kc : Int) == -1) = false := by first | (simp; done) | (simp; omega)
            have hk1 : ((kc : Int) != -1) = true := by first | (simp; done) | (simp; omega)
            have hk6 : kc ≤ 60 := by omega
            clear hZ h3 h1
            go_wp2_with fail
            all_goals try refine ⟨fun _ _ => trivial, ?_⟩
            all_goals try go_wp2_with fail
            go_roundw
            case rel => exact ⟨s + 1, by omega, by go_num, hb24⟩
            case measure => simp [intOf]; omega
    · clear c0 c1 c2 c3
      go_wp2_with fail
      refine HK1.out _ _ ?_
      exact law44 HT.out hbr HM.out HL.out

noncomputable def t20C : Code := (Try.f6.body.bind (fromR 20)).getD .skip

set_option maxRecDepth 100000 in
set_option maxHeartbeats 8000000 in
theorem law20 {w w2 w3 : World} {X M : Nat} {c : Cab} {t : List Int} {bs : List Bool} {ah al a : Option Addr} {ch cl ca lo hi : Nat} (hT : TrueW w w2 X c t bs ah al a ch cl ca) (hb : Below w2.heap.size w2 w3) (hm : w2.cell? ⟨M, 0, none⟩ = some (.int .i64 lo) ∧ w2.cell? ⟨M, 1, none⟩ = some (.int .i64 hi)) (hlh : lo ≤ away c t ∧ away c t ≤ hi ∧ hi ≤ 100)
    {s0 s1 s2 s5 s6 s7 s8 s9 s10 s11 s12 s13 s14 s15 s17 s18 s19 s20 s21 s22 s23 s24 s25 s26 s27 s28 s29 s30 s31 s32 s33 s34 s35 s36 s37 s38 s39 s40 s41 s42 s43 s44 s45 s46 s47 s48 s49 s50 s51 s52 s53 s54 s55 s56 s57 s58 s59 s60 s61 s62 s63 s64 s65 s66 s67 s68 s69 s70 s71 s72 s73 s74 s75 s76 s77 s78 s79 s80 s81 s82 s83 s84 s85 s86 s87 s88 s89 s90 s91 s92 s93 s94 s95 s96 s97 s98 s99 s100 s101 s102 s103 s104 s105 s106 s107 s108 s109 s110 s111 s112 s113 s114 s115 s116 s117 s118 s119 s120 s121 s122 s123 s124 s125 s126 s127 s128 s129 s130 s131 s132 s133 s134 s135 s136 s137 s138 s139 s140 s141 s142 s143 s144 s145 s146 s147 s148 s149 s150 s151 s152 s153 s154 s155 s156 s157 s158 s159 s160 s161 s162 s163 s164 s165 s166 s167 s168 s169 s170 s171 s172 s173 s174 s175 s176 s177 s178 s179 s180 s181 s182 s183 s184 s185 s186 s187 s188 s189 s190 s191 s192 s193 s194 s195 s196 s197 s198 s199 s200 s201 s202 s203 s204 s205 s206 s207 s208 s209 s210 s211 s212 s213 s214 s215 s216 s217 s218 s219 s220 s221 s222 s223 s224 s225 s226 s227 s228 s229 s230 s231 s232 s233 s234 s235 s236 s237 s238 s239 s240 s241 s242 s243 s244 s245 s246 s247 s248 s249 s250 : Value} :
    Code.wp Try.prog t20C (bodyPost Try.prog Try.f6 (fun e w' => e = .returned (.bool true) ∧ Below w.heap.size w w')) { tmps := #[s0, s1, s2, .pointer (some ⟨X, 0, none⟩), .slice a t.length ca, s5, s6, s7, s8, s9, s10, s11, s12, s13, s14, s15, .pointer (some ⟨M, 0, none⟩), s17, s18, s19, s20, s21, s22, s23, s24, s25, s26, s27, s28, s29, s30, s31, s32, s33, s34, s35, s36, s37, s38, s39, s40, s41, s42, s43, s44, s45, s46, s47, s48, s49, s50, s51, s52, s53, s54, s55, s56, s57, s58, s59, s60, s61, s62, s63, s64, s65, s66, s67, s68, s69, s70, s71, s72, s73, s74, s75, s76, s77, s78, s79, s80, s81, s82, s83, s84, s85, s86, s87, s88, s89, s90, s91, s92, s93, s94, s95, s96, s97, s98, s99, s100, s101, s102, s103, s104, s105, s106, s107, s108, s109, s110, s111, s112, s113, s114, s115, s116, s117, s118, s119, s120, s121, s122, s123, s124, s125, s126, s127, s128, s129, s130, s131, s132, s133, s134, s135, s136, s137, s138, s139, s140, s141, s142, s143, s144, s145, s146, s147, s148, s149, s150, s151, s152, s153, s154, s155, s156, s157, s158, s159, s160, s161, s162, s163, s164, s165, s166, s167, s168, s169, s170, s171, s172, s173, s174, s175, s176, s177, s178, s179, s180, s181, s182, s183, s184, s185, s186, s187, s188, s189, s190, s191, s192, s193, s194, s195, s196, s197, s198, s199, s200, s201, s202, s203, s204, s205, s206, s207, s208, s209, s210, s211, s212, s213, s214, s215, s216, s217, s218, s219, s220, s221, s222, s223, s224, s225, s226, s227, s228, s229, s230, s231, s232, s233, s234, s235, s236, s237, s238, s239, s240, s241, s242, s243, s244, s245, s246, s247, s248, s249, s250], defers := [] } w3 := by
  have hb0 := Lib.hid hb
  have HT := Lib.hid hT
  have HM := Lib.hid hm
  have HL := Lib.hid hlh
  have HTL := Lib.hid hT.tlen
  have hh5 := valid_homes hT.hv
  have ht5 : t.length ≤ 5 := by rw [HTL.out]; exact hh5
  obtain ⟨vs1, vs2⟩ := valid_slots hT.hv
  have HNE := Lib.hid (true_ne hT.htr)
  clear hT hm hlh
  conv => arg 2; whnf
  refine wp_seq_hid ?_
  intro K0 HK0
  go_wp2_with fail
  refine HK0.out _ _ ?_
  refine wp_seq_hid ?_
  intro K1 HK1
  go_wp2_with fail
  go_loopw [22, 145] (fun q i wr => ∃ j : Nat, j ≤ t.length ∧ i = .int .i64 j ∧ q = .int .i64 (awayK t c.homes j : Nat) ∧ Below w2.heap.size w2 wr) (fun _ i _ => t.length - (intOf i).toNat)
  case atStart => exact ⟨0, by omega, rfl, rfl, hb0.out⟩
  case round =>
    obtain ⟨j, hj, rfl, rfl, hbr⟩ := hrel
    have hak := awayK_le t c.homes j
    by_cases hlt : j < t.length
    · obtain ⟨c0, c1, c2, c3⟩ := HT.out.cells hbr
      have hjh : j < c.homes.length := by rw [← HTL.out]; exact hlt
      have hcd : c.card (j : Int) = true := by unfold Cab.card inR; simp; omega
      have hW := where_lt HT.out.hv hjh
      have hS62 : setL (whereL c j) < 2 ^ 62 := Nat.lt_of_lt_of_le hW (Nat.pow_le_pow_right (by decide) (by omega))
      have HWY := Lib.hid (where_yes HT.out.hv HNE.out hcd)
      have HS62 := Lib.hid hS62
      clear hcd hW hS62
      have hg := HT.out.hg.mono hbr
      obtain ⟨gb, go, hga, hgc⟩ := (HT.out.ha.mono hbr) j hlt
      subst hga
      have HAK : Hid (awayK t c.homes (j + 1) = awayK t c.homes j + if gi t j ≠ -1 ∧ gi t j ≠ gi c.homes j then 1 else 0) := rfl
      obtain ⟨AK, hAK⟩ : ∃ AK, awayK t c.homes j = AK := ⟨_, rfl⟩
      rw [hAK] at HAK hak ⊢
      clear hAK
      rcases true_where HT.out.hv HT.out.htr hjh with ⟨h1, h2⟩ | ⟨sl, h1, h2, h3⟩
      · have H1 := Lib.hid h1
        have H2 := Lib.hid h2
        rw [h1] at hgc
        clear h1 h2
        go_wp2_with fail
        refine (where_any hg (j : Int)).mono ?_
        rintro e w4 ⟨rfl, hb4⟩
        rw [HWY.out]
        have hb24 : Below w2.heap.size w2 w4 := hbr.trans (hb4.mono hbr.size)
        rw [H2.out]
        clear c0 c1 c2 c3 hg hb4 hgc
        go_wp2_with fail
        all_goals try refine ⟨fun _ _ => trivial, ?_⟩
        all_goals try go_wp2_with fail
        all_goals try refine ⟨fun _ _ => trivial, ?_⟩
        all_goals try go_wp2_with fail
        go_roundw
        case rel => exact ⟨j + 1, by omega, by go_num, by rw [HAK.out, if_neg (fun h => h.1 H1.out)]; rfl, hb24⟩
        case measure => simp [intOf]; omega
      · have H1 := Lib.hid h1
        rw [h1] at hgc
        obtain ⟨Z, hZ⟩ : ∃ Z, setL (whereL c j) = Z := ⟨_, rfl⟩
        have hbt := bit_val6 Z sl (by rw [← hZ]; exact HS62.out)
        rw [← hZ, if_pos h3] at hbt
        rw [hZ] at hbt
        have HZ := Lib.hid hZ
        have hk0 : ((sl : Int) == -1) = false := by first | (simp; done) | (simp; omega)
        have hk1 : ((sl : Int) != -1) = true := by first | (simp; done) | (simp; omega)
        have hk6 : sl ≤ 60 := by omega
        obtain ⟨hb, ho, hha, hhc⟩ := hg.hi j hjh
        subst hha
        clear hZ h3 h1
        go_wp2_with fail
        refine (where_any hg (j : Int)).mono ?_
        rintro e w4 ⟨rfl, hb4⟩
        rw [HWY.out, HZ.out]
        have hb24 : Below w2.heap.size w2 w4 := hbr.trans (hb4.mono hbr.size)
        have hhc4 := cell_stays hb4 hhc
        clear c0 c1 c2 c3
        obtain ⟨c0, c1, c2, c3⟩ := HT.out.cells hb24
        clear hg hb4 hgc hhc
        by_cases he : (sl : Int) = gi c.homes j
        · have heb : ((sl : Int) == gi c.homes j) = true := by simpa using he
          have heb' : ((sl : Int) != gi c.homes j) = false := by simpa using he
          have HE := Lib.hid he
          clear he
          go_wp2_with fail
          all_goals try refine ⟨fun _ _ => trivial, ?_⟩
          all_goals try go_wp2_with fail
          go_roundw
          case rel => exact ⟨j + 1, by omega, by go_num, by rw [HAK.out, if_neg (fun h => h.2 (by rw [H1.out]; exact HE.out))]; rfl, hb24⟩
          case measure => simp [intOf]; omega
        · have heb : ((sl : Int) == gi c.homes j) = false := by simpa using he
          have heb' : ((sl : Int) != gi c.homes j) = true := by simpa using he
          have HE := Lib.hid he
          clear he
          go_wp2_with fail
          all_goals try refine ⟨fun _ _ => trivial, ?_⟩
          all_goals try go_wp2_with fail
          go_roundw
          case rel => exact ⟨j + 1, by omega, by go_num, by rw [HAK.out, if_pos ⟨by rw [H1.out]; omega, by rw [H1.out]; exact HE.out⟩]; go_num, hb24⟩
          case measure => simp [intOf]; omega
    · obtain rfl : j = t.length := by omega
      have haw : awayK t c.homes t.length = away c t := awayK_all t c.homes HTL.out
      rw [haw]
      clear haw hak
      go_wp2_with fail
      refine HK1.out _ _ ?_
      exact law30 HT.out hbr HM.out HL.out

noncomputable def t18C : Code := (Try.f6.body.bind (fromR 18)).getD .skip

set_option maxRecDepth 100000 in
set_option maxHeartbeats 8000000 in
theorem law18 {w w2 w3 : World} {X M : Nat} {c : Cab} {t : List Int} {bs : List Bool} {ah al a : Option Addr} {ch cl ca lo hi : Nat} (hT : TrueW w w2 X c t bs ah al a ch cl ca) (hb : Below w2.heap.size w2 w3) (hm : w2.cell? ⟨M, 0, none⟩ = some (.int .i64 lo) ∧ w2.cell? ⟨M, 1, none⟩ = some (.int .i64 hi)) (hlh : lo ≤ away c t ∧ away c t ≤ hi ∧ hi ≤ 100)
    {s0 s1 s2 s6 s7 s9 s12 s15 s17 s20 s21 s22 s23 s24 s25 s26 s27 s28 s29 s30 s31 s32 s33 s34 s35 s36 s37 s38 s39 s40 s41 s42 s43 s44 s45 s46 s47 s48 s49 s50 s51 s52 s53 s54 s55 s56 s57 s58 s59 s60 s61 s62 s63 s64 s65 s66 s67 s68 s69 s70 s71 s72 s73 s74 s75 s76 s77 s78 s79 s80 s81 s82 s83 s84 s85 s86 s87 s88 s89 s90 s91 s92 s93 s94 s95 s96 s97 s98 s99 s100 s101 s102 s103 s104 s105 s106 s107 s108 s109 s110 s111 s112 s113 s114 s115 s116 s117 s118 s119 s120 s121 s122 s123 s124 s125 s126 s127 s128 s129 s130 s131 s132 s133 s134 s135 s136 s137 s138 s139 s140 s141 s142 s143 s144 s145 s146 s147 s148 s149 s150 s151 s152 s153 s154 s155 s156 s157 s158 s159 s160 s161 s162 s163 s164 s165 s166 s167 s168 s169 s170 s171 s172 s173 s174 s175 s176 s177 s178 s179 s180 s181 s182 s183 s184 s185 s186 s187 s188 s189 s190 s191 s192 s193 s194 s195 s196 s197 s198 s199 s200 s201 s202 s203 s204 s205 s206 s207 s208 s209 s210 s211 s212 s213 s214 s215 s216 s217 s218 s219 s220 s221 s222 s223 s224 s225 s226 s227 s228 s229 s230 s231 s232 s233 s234 s235 s236 s237 s238 s239 s240 s241 s242 s243 s244 s245 s246 s247 s248 s249 s250 : Value} :
    Code.wp Try.prog t18C (bodyPost Try.prog Try.f6 (fun e w' => e = .returned (.bool true) ∧ Below w.heap.size w w')) { tmps := #[s0, s1, s2, .pointer (some ⟨X, 0, none⟩), .slice a t.length ca, .int .i64 (wN bs : Nat), s6, s7, .int .i64 (leastN c : Nat), s9, .int .i64 (surelyS c : Nat), .int .i64 (canS c : Nat), s12, .int .i64 (ownS c : Nat), .int .i64 (mayS c : Nat), s15, .pointer (some ⟨M, 0, none⟩), s17, .int .i64 (wrongs bs : Nat), .int .i64 (whoOf c (wN bs) c.loans.length : Nat), s20, s21, s22, s23, s24, s25, s26, s27, s28, s29, s30, s31, s32, s33, s34, s35, s36, s37, s38, s39, s40, s41, s42, s43, s44, s45, s46, s47, s48, s49, s50, s51, s52, s53, s54, s55, s56, s57, s58, s59, s60, s61, s62, s63, s64, s65, s66, s67, s68, s69, s70, s71, s72, s73, s74, s75, s76, s77, s78, s79, s80, s81, s82, s83, s84, s85, s86, s87, s88, s89, s90, s91, s92, s93, s94, s95, s96, s97, s98, s99, s100, s101, s102, s103, s104, s105, s106, s107, s108, s109, s110, s111, s112, s113, s114, s115, s116, s117, s118, s119, s120, s121, s122, s123, s124, s125, s126, s127, s128, s129, s130, s131, s132, s133, s134, s135, s136, s137, s138, s139, s140, s141, s142, s143, s144, s145, s146, s147, s148, s149, s150, s151, s152, s153, s154, s155, s156, s157, s158, s159, s160, s161, s162, s163, s164, s165, s166, s167, s168, s169, s170, s171, s172, s173, s174, s175, s176, s177, s178, s179, s180, s181, s182, s183, s184, s185, s186, s187, s188, s189, s190, s191, s192, s193, s194, s195, s196, s197, s198, s199, s200, s201, s202, s203, s204, s205, s206, s207, s208, s209, s210, s211, s212, s213, s214, s215, s216, s217, s218, s219, s220, s221, s222, s223, s224, s225, s226, s227, s228, s229, s230, s231, s232, s233, s234, s235, s236, s237, s238, s239, s240, s241, s242, s243, s244, s245, s246, s247, s248, s249, s250], defers := [] } w3 := by
  have hle := (true_least hT.htr).2
  have a1 := andNot_zero (surelyS c) (wN bs) (true_surely hT.htr)
  have a2 := andNot_zero (wN bs) (canS c) (true_can hT.htr)
  have a3 := andNot_zero (ownS c) (whoOf c (wN bs) c.loans.length) (true_own hT.htr)
  have a4 := andNot_zero (whoOf c (wN bs) c.loans.length) (mayS c) (true_may hT.htr)
  have hd : decide ((wrongs bs : Int) < (leastN c : Int)) = false := by simp; omega
  have hd' : decide (wrongs bs < leastN c) = false := by simp; omega
  conv => arg 2; whnf
  refine wp_seq_hid ?_
  intro K0 HK0
  go_wp2_with fail
  refine HK0.out _ _ ?_
  exact law20 hT hb hm hlh

noncomputable def t11C : Code := (Try.f6.body.bind (fromR 11)).getD .skip

set_option maxRecDepth 100000 in
set_option maxHeartbeats 8000000 in
theorem law11 {w w2 w3 : World} {X M : Nat} {c : Cab} {t : List Int} {bs : List Bool} {ah al a : Option Addr} {ch cl ca lo hi : Nat} (hT : TrueW w w2 X c t bs ah al a ch cl ca) (hb : Below w2.heap.size w2 w3) (hm : w2.cell? ⟨M, 0, none⟩ = some (.int .i64 lo) ∧ w2.cell? ⟨M, 1, none⟩ = some (.int .i64 hi)) (hlh : lo ≤ away c t ∧ away c t ≤ hi ∧ hi ≤ 100)
    {s0 s1 s2 s6 s7 s9 s12 s15 s17 s18 s19 s20 s21 s22 s23 s24 s25 s26 s27 s28 s29 s30 s31 s32 s33 s34 s35 s36 s37 s38 s39 s40 s41 s42 s43 s44 s45 s46 s47 s48 s49 s50 s51 s52 s53 s54 s55 s56 s57 s58 s59 s60 s61 s62 s63 s64 s65 s66 s67 s68 s69 s70 s71 s72 s73 s74 s75 s76 s77 s78 s79 s80 s81 s82 s83 s84 s85 s86 s87 s88 s89 s90 s91 s92 s93 s94 s95 s96 s97 s98 s99 s100 s101 s102 s103 s104 s105 s106 s107 s108 s109 s110 s111 s112 s113 s114 s115 s116 s117 s118 s119 s120 s121 s122 s123 s124 s125 s126 s127 s128 s129 s130 s131 s132 s133 s134 s135 s136 s137 s138 s139 s140 s141 s142 s143 s144 s145 s146 s147 s148 s149 s150 s151 s152 s153 s154 s155 s156 s157 s158 s159 s160 s161 s162 s163 s164 s165 s166 s167 s168 s169 s170 s171 s172 s173 s174 s175 s176 s177 s178 s179 s180 s181 s182 s183 s184 s185 s186 s187 s188 s189 s190 s191 s192 s193 s194 s195 s196 s197 s198 s199 s200 s201 s202 s203 s204 s205 s206 s207 s208 s209 s210 s211 s212 s213 s214 s215 s216 s217 s218 s219 s220 s221 s222 s223 s224 s225 s226 s227 s228 s229 s230 s231 s232 s233 s234 s235 s236 s237 s238 s239 s240 s241 s242 s243 s244 s245 s246 s247 s248 s249 s250 : Value} :
    Code.wp Try.prog t11C (bodyPost Try.prog Try.f6 (fun e w' => e = .returned (.bool true) ∧ Below w.heap.size w w')) { tmps := #[s0, s1, s2, .pointer (some ⟨X, 0, none⟩), .slice a t.length ca, .int .i64 (wN bs : Nat), s6, s7, .int .i64 (leastN c : Nat), s9, .int .i64 (surelyS c : Nat), .int .i64 (canS c : Nat), s12, .int .i64 (ownS c : Nat), .int .i64 (mayS c : Nat), s15, .pointer (some ⟨M, 0, none⟩), s17, s18, s19, s20, s21, s22, s23, s24, s25, s26, s27, s28, s29, s30, s31, s32, s33, s34, s35, s36, s37, s38, s39, s40, s41, s42, s43, s44, s45, s46, s47, s48, s49, s50, s51, s52, s53, s54, s55, s56, s57, s58, s59, s60, s61, s62, s63, s64, s65, s66, s67, s68, s69, s70, s71, s72, s73, s74, s75, s76, s77, s78, s79, s80, s81, s82, s83, s84, s85, s86, s87, s88, s89, s90, s91, s92, s93, s94, s95, s96, s97, s98, s99, s100, s101, s102, s103, s104, s105, s106, s107, s108, s109, s110, s111, s112, s113, s114, s115, s116, s117, s118, s119, s120, s121, s122, s123, s124, s125, s126, s127, s128, s129, s130, s131, s132, s133, s134, s135, s136, s137, s138, s139, s140, s141, s142, s143, s144, s145, s146, s147, s148, s149, s150, s151, s152, s153, s154, s155, s156, s157, s158, s159, s160, s161, s162, s163, s164, s165, s166, s167, s168, s169, s170, s171, s172, s173, s174, s175, s176, s177, s178, s179, s180, s181, s182, s183, s184, s185, s186, s187, s188, s189, s190, s191, s192, s193, s194, s195, s196, s197, s198, s199, s200, s201, s202, s203, s204, s205, s206, s207, s208, s209, s210, s211, s212, s213, s214, s215, s216, s217, s218, s219, s220, s221, s222, s223, s224, s225, s226, s227, s228, s229, s230, s231, s232, s233, s234, s235, s236, s237, s238, s239, s240, s241, s242, s243, s244, s245, s246, s247, s248, s249, s250], defers := [] } w3 := by
  have hb0 := Lib.hid hb
  have HT := Lib.hid hT
  have HM := Lib.hid hm
  have HL := Lib.hid hlh
  have vl := valid_loans hT.hv
  have hbl := true_len hT.htr
  have hwn : wN bs < 2 ^ 62 := Nat.lt_of_lt_of_le (wN_lt (n := 12) (by omega)) (Nat.pow_le_pow_right (by decide) (by decide))
  have HKI : Hid (∀ i, (wN bs).testBit i = true → i < c.loans.length ∧ (gl c.loans i).kind = 1) := fun i hi => true_kinds hT.htr i hi
  obtain ⟨c0, c1, c2, c3⟩ := hT.cells hb
  clear hT hm hlh c0 c1 c2
  conv => arg 2; whnf
  refine wp_seq_hid ?_
  intro K0 HK0
  go_wp2_with fail
  refine HK0.out _ _ ?_
  refine wp_seq_hid ?_
  intro K1 HK1
  go_wp2_with fail
  clear c3
  go_loopw [18, 19, 98] (fun q r i wr => ∃ k : Nat, k ≤ c.loans.length ∧ i = .int .i64 k ∧ q = .int .i64 (wcnt bs k : Nat) ∧ r = .int .i64 (whoOf c (wN bs) k : Nat) ∧ Below w2.heap.size w2 wr) (fun _ _ i _ => c.loans.length - (intOf i).toNat)
  case atStart => exact ⟨0, by omega, rfl, rfl, rfl, hb0.out⟩
  case round =>
    obtain ⟨k, hk, rfl, rfl, rfl, hbr⟩ := hrel
    by_cases hlt : k < c.loans.length
    · obtain ⟨lb, lo_, hla, l0, l1, l2, l3⟩ := (HT.out.hg.mono hbr).li k hlt
      subst hla
      have hb1 := bit_test (wN bs) k hwn
      have HW1 := Lib.hid (whoOf_succ c (wN bs) k)
      have HC1 := Lib.hid (wcnt_succ bs k (by omega))
      have HG : Hid ((wN bs).testBit k = gb bs k) := wN_test bs k
      have hwk := wcnt_le bs k
      obtain ⟨C, hC⟩ : ∃ C, wcnt bs k = C := ⟨_, rfl⟩
      rw [hC] at HC1 hwk ⊢
      clear hC
      have hwl := whoOf_lt HT.out.hv HKI.out k
      obtain ⟨V, hV⟩ : ∃ V, whoOf c (wN bs) k = V := ⟨_, rfl⟩
      rw [hV] at HW1 hwl ⊢
      clear hV
      cases hc1 : (wN bs).testBit k
      · rw [hc1] at hb1
        have HC := Lib.hid hc1
        clear hc1
        have hbb : Below w2.heap.size w2 (wr.alloc (.cells (gl c.loans k).arr 48)) := hbr.alloc hbr.size _
        go_wp2_with fail
        go_roundw
        case rel => exact ⟨k + 1, by omega, by go_num, by rw [HC1.out, ← HG.out, HC.out]; rfl, by rw [HW1.out, HC.out]; rfl, hbb⟩
        case measure => simp [intOf]; omega
      · have hkind := (HKI.out k hc1).2
        have hpr := person_rng HT.out.hv hlt hkind
        obtain ⟨jn, hjn⟩ := Int.eq_ofNat_of_zero_le hpr.1
        obtain ⟨z, hz⟩ : ∃ z : Nat, 2 ^ jn = z := ⟨_, rfl⟩
        have hwr := wrap_two (j := jn) (by omega)
        have hzl := two_lt (j := jn) (by omega)
        rw [hz] at hwr hzl
        have ho1 := or_nat V z hwl hzl
        have hpn : Hid ((gl c.loans k).person.toNat = jn) := by rw [Hid, hjn]; rfl
        have HZ := Lib.hid hz
        rw [hjn] at l2
        have hjb : (jn : Int) ≤ 7 := by omega
        rw [hc1] at hb1
        have HC := Lib.hid hc1
        have hbb' : Below w2.heap.size w2 (wr.alloc (.cells #[.int .i64 (gl c.loans k).kind, .int .i64 (gl c.loans k).card, .int .i64 jn, .int .i64 (gl c.loans k).slot] 48)) := hbr.alloc hbr.size _
        have hnw := World.alloc_heap_new wr (.cells #[.int .i64 (gl c.loans k).kind, .int .i64 (gl c.loans k).card, .int .i64 jn, .int .i64 (gl c.loans k).slot] 48)
        clear hz hpr hkind hjn hc1
        go_wp2_with fail
        revert hbb' hnw
        generalize (wr.alloc (.cells #[.int .i64 (gl c.loans k).kind, .int .i64 (gl c.loans k).card, .int .i64 jn, .int .i64 (gl c.loans k).slot] 48)) = w5
        intro hbb' hnw
        have hc2 : w5.cell? ⟨wr.heap.size, 2, none⟩ = some (.int .i64 jn) := by rw [cell_of_heap hnw]; rfl
        have x2 := fun y : Aft w5.heap.size w5 => cell_stays y.h hc2
        have y1 : IntKind.i64.wrap ((C : Int) + 1) = (C : Int) + 1 := IntWalk.i64_in _ (by omega)
        clear hnw hc2
        refine wp_region_aft mixed (by kernel_rfl) ?_
        repeat (go_big_quiet_step (fail))
        refine wpQuiet_nil ?_
        rintro _ ⟨y, rfl⟩
        go_wp2_with fail
        go_roundw
        case rel => exact ⟨k + 1, by omega, by go_num, by rw [HC1.out, ← HG.out, HC.out]; go_num, by rw [HW1.out, HC.out, hpn.out, HZ.out]; rfl, hbb'.trans (y.h.mono hbb'.size)⟩
        case measure => simp [intOf]; omega
    · obtain rfl : k = c.loans.length := by omega
      have hwc : wcnt bs c.loans.length = wrongs bs := by rw [← hbl]; exact wcnt_all bs
      rw [hwc]
      clear hwc
      go_wp2_with fail
      refine HK1.out _ _ ?_
      exact law18 HT.out hbr HM.out HL.out

end Go.Proofs.Ytlhobddaojdnoaa

namespace Go.Proofs.Ytlhobddaojdnoaa
open Go.RowKit
set_option linter.unusedVariables false

set_option maxHeartbeats 1000000 in
theorem draws_any {w : World} {b off cap : Nat} {l : List Int} (hw : IsWords w b off l) (h0 : 0 < l.length) (h1 : l.length ≤ 9223372036854775807) (h2 : ∀ x ∈ l, 0 ≤ x ∧ x ≤ 65535) :
    Calls Try.prog 34 #[.slice (some ⟨b, off, none⟩) l.length cap] w fun e w' => ∃ pa pb : Nat, e = .returned (.func (.func 77) #[] #[.pointer (some ⟨pa, 0, none⟩), .pointer (some ⟨pb, 0, none⟩)]) ∧ Drawer w' pa pb 0 ∧ Below w.heap.size w w' ∧ w.heap.size ≤ pa := by
  have hmf : ∀ (fn : Fn) (first cap : Array Value) (w : World), (Instr.makeFunc fn first cap).run Try.prog w = .ok (.func fn first cap) w := fun _ _ _ _ => rfl
  have hb : Below w.heap.size w ((w.alloc (.cells #[.slice (some ⟨b, off, none⟩) l.length cap] 42)).alloc (.cells #[.int .i64 0] 3)) := ((Below.refl _ w).alloc (Nat.le_refl _) _).alloc (by simp) _
  have hp0 := heap_alloc2_0 w (.cells #[.slice (some ⟨b, off, none⟩) l.length cap] 42) (.cells #[.int .i64 0] 3)
  have hp1 := World.alloc_heap_new (w.alloc (.cells #[.slice (some ⟨b, off, none⟩) l.length cap] 42)) (.cells #[.int .i64 0] 3)
  rw [World.size_alloc] at hp1
  have hbl : b < w.heap.size := lt_of_cell (hw 0 h0)
  have HD : Hid (Drawer ((w.alloc (.cells #[.slice (some ⟨b, off, none⟩) l.length cap] 42)).alloc (.cells #[.int .i64 0] 3)) (w.heap.size + 1) w.heap.size 0) :=
    ⟨hp1, b, off, cap, l, by rw [cell_of_heap hp0]; rfl, fun i hi => cell_stays hb (hw i hi), h0, h1, h2, by omega, by omega⟩
  have HB := Lib.hid hb
  clear hb hp0 hp1 hw h2
  go_enter Try.func34, Try.ntmps34
  go_wp2_with fail
  go_ret
  exact ⟨_, _, rfl, HD.out, HB.out, by omega⟩
theorem away_small {c : Cab} {s : List Int} (h : s.length = c.homes.length) (h5 : c.homes.length ≤ 5) : away c s ≤ 5 := by
  unfold away
  have := List.countP_le_length (p := fun x : Int × Int => !decide (x.1 = -1) && !decide (x.1 = x.2)) (l := s.zip c.homes)
  simp at this ⊢
  omega
theorem maxL_small {c : Cab} (hv : c.valid = true) : maxL (awayL c) ≤ 5 := by
  have h : ∀ x ∈ awayL c, x ≤ 5 := fun x hx => by
    obtain ⟨y, hy, rfl⟩ := List.mem_map.1 hx
    exact away_small (truth_st hv (t := y.1) (bs := y.2) hy).len (valid_homes hv)
  exact maxL_bd.2 h
set_option maxRecDepth 100000 in
set_option maxHeartbeats 8000000 in
theorem lawTrue_y {w : World} {b off cap : Nat} {l : List Int} (hw : IsWords w b off l) (h0 : 0 < l.length) (h1 : l.length ≤ 9223372036854775807) (h2 : ∀ x ∈ l, 0 ≤ x ∧ x ≤ 65535) :
    Calls Try.prog 6 #[.slice (some ⟨b, off, none⟩) l.length cap] w fun e w' => e = .returned (.bool true) ∧ Below w.heap.size w w' := by
  have hl0 : ((l.length : Int) == 0) = false := by rw [beq_eq_false_iff_ne]; omega
  have HD := Lib.hid (draws_any (cap := cap) hw h0 h1 h2)
  clear hw h2
  go_enter Try.func6, Try.ntmps6
  refine wp_seq_hid ?_
  intro K0 HK0
  go_wp2_with fail
  refine HK0.out _ _ ?_
  refine wp_seq_hid ?_
  intro K1 HK1
  go_wp2_with fail
  refine HK1.out _ _ ?_
  refine wp_seq_hid ?_
  intro K3 HK3
  go_wp2_with fail
  refine HD.out.mono ?_
  rintro e w1 ⟨pa, pb, rfl, hdr, hb1, hpa⟩
  go_wp2_with fail
  refine (made_any hdr (by omega)).mono ?_
  rintro e w2 ⟨c, t, bs, ah, al, a, ch, cl, ca, rfl, hv, htr, hg, ha, hs⟩
  have hB2 : Below w.heap.size w w2 := hb1.trans (Same.below hs hb1.size (fun k hk e => by omega))
  have HV := Lib.hid (And.intro hv (And.intro htr (And.intro hg (And.intro ha hB2))))
  clear hdr hs hb1 HD hv htr hg ha hB2
  go_wp2_with fail
  refine HK3.out _ _ ?_
  have hx0 : (w2.alloc (.cells #[.int .i64 c.slots, .slice ah c.homes.length ch, .int .i64 c.wrong, .slice al c.loans.length cl] 25)).heap[w2.heap.size]? = some (.cells (c.cells ah ch al cl) 25 (0, 0)) := World.alloc_heap_new _ _
  have hb3 : Below w2.heap.size w2 (w2.alloc (.cells #[.int .i64 c.slots, .slice ah c.homes.length ch, .int .i64 c.wrong, .slice al c.loans.length cl] 25)) := (Below.refl _ w2).alloc (Nat.le_refl _) _
  revert hx0 hb3
  generalize (w2.alloc (.cells #[.int .i64 c.slots, .slice ah c.homes.length ch, .int .i64 c.wrong, .slice al c.loans.length cl] 25)) = w3
  obtain ⟨X, hX⟩ : ∃ X, X = w2.heap.size := ⟨_, rfl⟩
  rw [← hX]
  have HXE := Lib.hid hX
  clear hX
  intro hx0 hb3
  rw [HXE.out] at hb3
  have HX := Lib.hid (And.intro hx0 hb3)
  have hne := true_ne HV.out.2.1
  have HCH := Lib.hid (check_yes HV.out.1 hne)
  have HWR := Lib.hid (wrongsE_yes HV.out.1 (true_least HV.out.2.1).1)
  have HBL := Lib.hid (blame_yes HV.out.1 hne)
  have HPE := Lib.hid (people_yes HV.out.1 hne)
  have HMI := Lib.hid (misplaced_yes HV.out.1 hne)
  have HGV : Hid (∀ v, Below w3.heap.size w3 v → Given v c ah ch al cl) := fun v h => (HV.out.2.2.1.mono HX.out.2).mono h
  have HCE : Hid (∀ v, Below w3.heap.size w3 v → v.cell? ⟨X, 0, none⟩ = some (.int .i64 c.slots) ∧ v.cell? ⟨X, 1, none⟩ = some (.slice ah c.homes.length ch) ∧ v.cell? ⟨X, 2, none⟩ = some (.int .i64 c.wrong) ∧ v.cell? ⟨X, 3, none⟩ = some (.slice al c.loans.length cl)) := fun v hb => by
    have hx := HX.out.1
    refine ⟨cell_stays hb ?_, cell_stays hb ?_, cell_stays hb ?_, cell_stays hb ?_⟩ <;> (rw [cell_of_heap hx]; rfl)
  clear hx0 hb3 hne
  have b3 : Below w3.heap.size w3 w3 := Below.refl _ _
  obtain ⟨c0, c1, c2, c3⟩ := HCE.out _ b3
  refine wp_seq_hid ?_
  intro K4 HK4
  go_wp2_with fail
  refine (check_any (HGV.out _ b3)).mono ?_
  rintro e v4 ⟨rfl, hb⟩
  rw [HCH.out]
  have b4 := b3.trans (hb.mono b3.size)
  clear hb c0 c1 c2 c3
  go_wp2_with fail
  refine HK4.out _ _ ?_
  obtain ⟨c0, c1, c2, c3⟩ := HCE.out _ b4
  refine wp_seq_hid ?_
  intro K5 HK5
  go_wp2_with fail
  refine (wrongs_any (HGV.out _ b4)).mono ?_
  rintro e v5 ⟨rfl, hb⟩
  rw [HWR.out]
  have b5 := b4.trans (hb.mono b4.size)
  clear hb c0 c1 c2 c3
  go_wp2_with fail
  refine HK5.out _ _ ?_
  obtain ⟨c0, c1, c2, c3⟩ := HCE.out _ b5
  refine wp_seq_hid ?_
  intro K6 HK6
  go_wp2_with fail
  refine (blame_any (HGV.out _ b5)).mono ?_
  rintro e v6 ⟨rfl, hb⟩
  rw [HBL.out]
  have b6 := b5.trans (hb.mono b5.size)
  clear hb c0 c1 c2 c3
  go_wp2_with fail
  refine HK6.out _ _ ?_
  obtain ⟨c0, c1, c2, c3⟩ := HCE.out _ b6
  refine wp_seq_hid ?_
  intro K7 HK7
  go_wp2_with fail
  refine (people_any (HGV.out _ b6)).mono ?_
  rintro e v7 ⟨rfl, hb⟩
  rw [HPE.out]
  have b7 := b6.trans (hb.mono b6.size)
  clear hb c0 c1 c2 c3
  go_wp2_with fail
  refine HK7.out _ _ ?_
  obtain ⟨c0, c1, c2, c3⟩ := HCE.out _ b7
  refine wp_seq_hid ?_
  intro K8 HK8
  go_wp2_with fail
  refine (misplaced_any (HGV.out _ b7)).mono ?_
  rintro e v8 ⟨rfl, hb⟩
  rw [HMI.out]
  have b8 := b7.trans (hb.mono b7.size)
  clear hb c0 c1 c2 c3
  go_wp2_with fail
  refine HK8.out _ _ ?_
  have hm0 : (v8.alloc (.cells #[.int .i64 (minL (awayL c) : Nat), .int .i64 (maxL (awayL c) : Nat)] 37)).heap[v8.heap.size]? = some (.cells #[.int .i64 (minL (awayL c) : Nat), .int .i64 (maxL (awayL c) : Nat)] 37 (0, 0)) := World.alloc_heap_new _ _
  have b9 : Below w3.heap.size w3 (v8.alloc (.cells #[.int .i64 (minL (awayL c) : Nat), .int .i64 (maxL (awayL c) : Nat)] 37)) := b8.alloc b8.size _
  revert hm0 b9
  generalize (v8.alloc (.cells #[.int .i64 (minL (awayL c) : Nat), .int .i64 (maxL (awayL c) : Nat)] 37)) = v9
  generalize v8.heap.size = M
  intro hm0 b9
  have HMM := Lib.hid (And.intro hm0 b9)
  clear hm0 b9 b8 b3 b4 b5 b6 b7
  refine wp_seq_hid ?_
  intro K9 HK9
  go_wp2_with fail
  refine HK9.out _ _ ?_
  obtain ⟨hv, htr, hg, ha, hB2⟩ := HV.out
  have hB29 : Below w2.heap.size w2 v9 := HX.out.2.trans (HMM.out.2.mono HX.out.2.size)
  have hT : TrueW w v9 X c t bs ah al a ch cl ca := ⟨hv, htr, hg.mono hB29, ha.mono hB29, hB2.trans (hB29.mono hB2.size), (HMM.out.2.block X (heap_lt HX.out.1)).trans HX.out.1⟩
  exact law11 hT (Below.refl _ _) ⟨by rw [cell_of_heap HMM.out.1]; rfl, by rw [cell_of_heap HMM.out.1]; rfl⟩ ⟨(true_span htr).1, (true_span htr).2, by have := maxL_small hv; omega⟩
set_option maxRecDepth 100000 in
set_option maxHeartbeats 1000000 in
theorem lawTrue_n {w : World} {a : Option Addr} {cap : Nat} :
    Calls Try.prog 6 #[.slice a 0 cap] w fun e w' => e = .returned (.bool true) ∧ Below w.heap.size w w' := by
  go_enter Try.func6, Try.ntmps6
  go_wp2_with fail
  refine (alive_any _).mono ?_
  rintro e w9 ⟨rfl, hb9⟩
  go_wp2
  go_ret
  exact ⟨rfl, hb9⟩
end Go.Proofs.Ytlhobddaojdnoaa

