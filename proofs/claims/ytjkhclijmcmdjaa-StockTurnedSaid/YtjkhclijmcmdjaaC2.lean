/- What a forme gives; what a plan costs; in the program and in the reference. The kinds of deals: a map; whether a deal is valid. -/
import Derived.Test.YtjkhclijmcmdjaaC1
namespace Go.Proofs.Ytjkhclijmcmdjaa
open Go.RowKit
set_option linter.unusedVariables false
set_option linter.unusedSimpArgs false
theorem res_spn {fn : Func} {u : Tmp} (h : fn.results = #[.cell u 23]) (tmps : Array Value) {w : World} {b : Nat} {x y : Value} (hp : tmps.getD u undef = .pointer (some ⟨b, 0, none⟩)) (hx : w.cell? ⟨b, 0, none⟩ = some x) (hy : w.cell? ⟨b, 1, none⟩ = some y) :
    (results fn tmps).run Try.prog w = .ok (.agg #[x, y]) w := by
  have hp' : tmps[u]?.getD undef = .pointer (some ⟨b, 0, none⟩) := by simpa using hp
  simp [results, h, hp', hx, hy, go_sem]
/-- A forme of a valid press, as far as what it gives goes. -/
structure FmeR (f : Fme) (v : Nat) : Prop where
  lt : v < f.slots.length
  slot : 0 ≤ gi f.slots v ∧ gi f.slots v ≤ 6
  times : 0 ≤ f.times ∧ f.times ≤ 1048576
theorem fmeR_of {p : Prs} {f : Fme} (h : fmeOk p f = true) {v : Nat} (hv : v < p.wanted.length) : FmeR f v := by
  unfold fmeOk at h
  simp only [Bool.and_eq_true, decide_eq_true_eq, inR, List.all_eq_true] at h
  obtain ⟨⟨⟨h1, h2⟩, h3⟩, h4⟩ := h
  have hl : v < f.slots.length := by omega
  exact ⟨hl, h2 _ (by simp [gi, hl]), by omega, h4.2⟩
theorem gives_eq (p : Prs) (f : Fme) (v : Nat) : p.gives f v = ⟨gi f.slots v * (p.good f.times).lo, gi f.slots v * (p.good f.times).hi⟩ := rfl
theorem gives_bd {p : Prs} (S : Spoil p) {f : Fme} {v : Nat} (F : FmeR f v) : (0 ≤ gi f.slots v * (p.good f.times).lo ∧ gi f.slots v * (p.good f.times).lo ≤ 6 * 1048576) ∧ 0 ≤ gi f.slots v * (p.good f.times).hi ∧ gi f.slots v * (p.good f.times).hi ≤ 6 * 1048576 := by
  have h := good_bd S F.times.1 (by have := F.times.2; omega)
  have t := F.times
  exact ⟨mul_bd F.slot.1 F.slot.2 h.1.1 (by omega), mul_bd F.slot.1 F.slot.2 (by omega) (by omega)⟩
set_option maxHeartbeats 2000000 in
theorem gives45 {p : Prs} {A : PrsA} {bp : Nat} {f : Fme} {a : Option Addr} {c v : Nat} {w : World} (hP : IsPress w p A bp) (S : Spoil p) (hf : IsInts w a f.slots) (F : FmeR f v) :
    Calls Try.prog 45 #[.pointer (some ⟨bp, 0, none⟩), f.v a c, .int .i64 v] w fun e w' => e = .returned (p.gives f v).v ∧ Below w.heap.size w w' := by
  have HX := Lib.hid (alloc2 w (f.arr a c) #[.int .i64 0, .int .i64 0] 29 23)
  have HP := Lib.hid (And.intro (hP.mono (alloc2 w (f.arr a c) #[.int .i64 0, .int .i64 0] 29 23).2.2) (hf.mono (alloc2 w (f.arr a c) #[.int .i64 0, .int .i64 0] 29 23).2.2))
  have hmf : ∀ (fn : Fn) (first cap : Array Value) (w : World), (Instr.makeFunc fn first cap).run Try.prog w = .ok (.func fn first cap) w := fun _ _ _ _ => rfl
  have hbd := gives_bd S F
  have hlt := F.lt
  obtain ⟨t0, t1⟩ := F.times
  have HS := Lib.hid S
  clear hP hf F S
  go_enter Try.func45, Try.ntmps45
  refine wp_seq_hid ?_
  intro K0 HK0
  go_wp2_with fail
  refine HK0.out _ _ ?_
  clear HK0 K0
  revert HX HP
  generalize (w.alloc (.cells (f.arr a c) 29)).alloc (.cells #[.int .i64 0, .int .i64 0] 23) = w1
  generalize hbx : w.heap.size + 1 = bx
  generalize hbf : w.heap.size = bf
  intro HX HP
  have x1 : w1.cell? ⟨bf, 1, none⟩ = some (.int .i64 f.times) := by rw [cell_of_heap HX.out.1]; rfl
  refine wp_seq_hid ?_
  intro K1 HK1
  go_wp2_with fail
  refine (good70 HP.out.1 HS.out t0 (by omega)).mono ?_
  rintro e w2 ⟨rfl, hb⟩
  have HB := Lib.hid hb
  clear hb x1
  go_wp2_with fail
  refine HK1.out _ _ ?_
  clear HK1 K1
  have hq0 := (HB.out.block _ (heap_lt HX.out.1)).trans HX.out.1
  have hq1 := (HB.out.block _ (heap_lt HX.out.2.1)).trans HX.out.2.1
  have HQ := Lib.hid (And.intro hq0 hq1)
  have x0 : w2.cell? ⟨bf, 0, none⟩ = some (.slice a f.slots.length c) := by rw [cell_of_heap hq0]; rfl
  have x1 : w2.cell? ⟨bf, 1, none⟩ = some (.int .i64 f.times) := by rw [cell_of_heap hq0]; rfl
  obtain ⟨ab, ao, hab, hcell⟩ := (HP.out.2.mono HB.out) v hlt
  subst hab
  have y0 := fun y : Aft w2.heap.size w2 => cell_stays y.h x0
  have y1 := fun y : Aft w2.heap.size w2 => cell_stays y.h x1
  have yc := fun y : Aft w2.heap.size w2 => cell_stays y.h hcell
  have C1 := Lib.hid (fun (b : Bool) (y : Aft w2.heap.size w2) => pick71 (p.good f.times) b y.v)
  have HGV := Lib.hid (gives_eq p f v)
  clear x0 x1 hcell hq0 hq1
  obtain ⟨g, hg⟩ : ∃ g, p.good f.times = g := ⟨_, rfl⟩
  rw [hg] at hbd HGV C1
  rw [hg]
  clear hg
  obtain ⟨s, hs⟩ : ∃ s, gi f.slots v = s := ⟨_, rfl⟩
  rw [hs] at hbd HGV yc
  clear hs
  have Ct : Hid (∀ y : Aft w2.heap.size w2, Calls Try.prog 71 #[g.v, .bool true] y.v fun e w' => e = .returned (.int .i64 g.lo) ∧ Below y.v.heap.size y.v w') := fun y => C1.out true y
  have Cf : Hid (∀ y : Aft w2.heap.size w2, Calls Try.prog 71 #[g.v, .bool false] y.v fun e w' => e = .returned (.int .i64 g.hi) ∧ Below y.v.heap.size y.v w') := fun y => C1.out false y
  have v1 : IntKind.i64.wrap (s * g.lo) = s * g.lo := IntWalk.i64_in _ (by omega)
  have v2 : IntKind.i64.wrap (s * g.hi) = s * g.hi := IntWalk.i64_in _ (by omega)
  clear C1
  refine wp_seq_hid ?_
  intro K2 HK2
  refine wp_region_aft_tail 17 mixed (by kernel_rfl) ?_
  simp only [List.take_succ_cons, List.take_zero, List.drop_succ_cons, List.drop_zero]
  repeat (go_big_quiet_step ((go_at_call 71; first | (with_reducible exact calls_aft (Ct.out _)) | (with_reducible exact calls_aft (Cf.out _)))))
  refine wpQuiet_nil ?_
  rintro _ ⟨y, rfl⟩
  have hq := (y.h.block _ (heap_lt HQ.out.2)).trans HQ.out.2
  have x0 : y.v.cell? ⟨bx, 0, none⟩ = some (.int .i64 0) := by rw [cell_of_heap hq]; rfl
  have x1 : y.v.cell? ⟨bx, 1, none⟩ = some (.int .i64 0) := by rw [cell_of_heap hq]; rfl
  have f0 : ∀ k, y.v.frozen? ⟨bx, k, none⟩ = false := fun k => frozen_of_heap hq
  have HQ2 := Lib.hid hq
  clear hq y0 y1 yc
  go_wp2_with fail
  refine HK2.out _ _ ?_
  clear x0 x1 f0
  have h4 := heap_setCell_at (k := 1) (heap_setCell_at (k := 0) HQ2.out (.int .i64 (s * g.lo))) (.int .i64 (s * g.hi))
  refine wp_ret ?_
  refine bodyPost_ret (v := .agg #[.int .i64 (s * g.lo), .int .i64 (s * g.hi)]) (res_spn rfl _ rfl (by rw [cell_of_heap h4]; rfl) (by rw [cell_of_heap h4]; rfl)) rfl ⟨by rw [HGV.out], ?_⟩
  have hs1 := HX.out.2.2.size
  have hs2 := HB.out.size
  have hbw : Below bf w y.v := HX.out.2.2.trans ((HB.out.trans (y.h.mono hs2)).mono (by omega))
  exact (hbw.setCell (p := ⟨bx, _, none⟩) (by show bf ≤ bx; omega) _).setCell (p := ⟨bx, _, none⟩) (by show bf ≤ bx; omega) _
theorem alloc3 (w : World) (c d e : Array Value) (s t u : TypeId) : (((w.alloc (.cells c s)).alloc (.cells d t)).alloc (.cells e u)).heap[w.heap.size]? = some (.cells c s (0, 0)) ∧ (((w.alloc (.cells c s)).alloc (.cells d t)).alloc (.cells e u)).heap[w.heap.size + 1]? = some (.cells d t (0, 0)) ∧
    (((w.alloc (.cells c s)).alloc (.cells d t)).alloc (.cells e u)).heap[w.heap.size + 2]? = some (.cells e u (0, 0)) ∧ Below w.heap.size w (((w.alloc (.cells c s)).alloc (.cells d t)).alloc (.cells e u)) := by
  obtain ⟨h1, h2, h3⟩ := alloc2 w c d s t
  refine ⟨?_, ?_, ?_, h3.alloc (by simp; omega) _⟩
  · rw [Below.heap_alloc _ _ _ (heap_lt h1)]; exact h1
  · rw [Below.heap_alloc _ _ _ (heap_lt h2)]; exact h2
  · have := World.alloc_heap_new ((w.alloc (.cells c s)).alloc (.cells d t)) (.cells e u)
    rwa [World.size_alloc, World.size_alloc] at this
end Go.Proofs.Ytjkhclijmcmdjaa
namespace Go.Proofs.Ytjkhclijmcmdjaa
open Go.RowKit
set_option linter.unusedVariables false
set_option linter.unusedSimpArgs false
theorem run_mapUpdate {w : World} {b : Nat} {es : Array MapEntry} {clock : Nat} {k : Int} {v : Value} (hb : w.heap[b]? = some (.map es clock)) (hf : Instr.findNow (.int .i64) (.int .i64 k) es.toList 0 = some none) :
    (Instr.mapUpdate 130 (.map (some b)) (.int .i64 k) v).run Try.prog w = .ok () (w.putObj b (.map (es.push { key := .int .i64 k, val := v, born := clock }) (clock + 1))) := by
  have h1 := MapKept.run_checkKey (P := Try.prog) (w := w) (kt := 3) (k := .int .i64 k) Try.underlying3 (by simp [MapKept.IsKey]) false 9999
  have h2 := MapKept.run_findKey (P := Try.prog) (w := w) (kt := 3) Try.underlying3 hf
  unfold Instr.mapUpdate
  simp only [Sem.run_bind, run_underlying Try.underlying130, Result.andThen, MapKept.run_getObj_map hb, h1, h2, MapKept.run_setObj_map _ hb]
  rfl
def kindV (i j : Nat) : Value := .agg #[.func (.func i) #[] #[], .func (.func j) #[] #[]]
def kindM : Obj := .map #[{ key := .int .i64 0, val := kindV 103 104, born := 0 }, { key := .int .i64 1, val := kindV 105 106, born := 1 }, { key := .int .i64 2, val := kindV 107 108, born := 2 }] 3
/-- What the map of kinds holds. -/
def kindOf (k : Int) : Option (Nat × Nat) := if k = 0 then some (103, 104) else if k = 1 then some (105, 106) else if k = 2 then some (107, 108) else none
theorem zero129 (w : World) : (zeroValue 129).run Try.prog w = .ok (.agg #[.nilFunc, .nilFunc]) w := by
  have h : (Try.prog.info? 129).map (fun i => i.zero) = some (some (.agg #[.nilFunc, .nilFunc])) := by kernel_rfl
  cases hi : Try.prog.info? 129 with
  | none => rw [hi] at h; cases h
  | some i =>
    rw [hi] at h
    simp only [Option.map_some, Option.some.injEq] at h
    simp [zeroValue, typeInfo, hi, h, Result.andThen]
theorem run_lookup {w : World} {b : Nat} (hb : w.heap[b]? = some kindM) (k : Int) (c : Bool) :
    (Instr.lookup 130 (.map (some b)) (.int .i64 k) c).run Try.prog w = .ok (match kindOf k with
      | some x => if c then .tuple #[kindV x.1 x.2, .bool true] else kindV x.1 x.2
      | none => if c then .tuple #[.agg #[.nilFunc, .nilFunc], .bool false] else .agg #[.nilFunc, .nilFunc]) w := by
  have h1 := MapKept.run_checkKey (P := Try.prog) (w := w) (kt := 3) (k := .int .i64 k) Try.underlying3 (by simp [MapKept.IsKey]) false 9999
  have hf : Instr.findNow (.int .i64) (.int .i64 k) [{ key := .int .i64 0, val := kindV 103 104, born := 0 }, { key := .int .i64 1, val := kindV 105 106, born := 1 }, { key := .int .i64 2, val := kindV 107 108, born := 2 }] 0 =
      some (if k = 0 then some (0, kindV 103 104) else if k = 1 then some (1, kindV 105 106) else if k = 2 then some (2, kindV 107 108) else none) := by
    by_cases h0 : k = 0
    · subst h0; rfl
    · by_cases h1 : k = 1
      · subst h1; rfl
      · by_cases h2 : k = 2
        · subst h2; rfl
        · have e0 : (k == 0) = false := by simpa using h0
          have e1 : (k == 1) = false := by simpa using h1
          have e2 : (k == 2) = false := by simpa using h2
          simp [Instr.findNow, Instr.sameNow, h0, h1, h2, e0, e1, e2]
  have h2 := MapKept.run_findKey (P := Try.prog) (w := w) (kt := 3) Try.underlying3 hf
  have hg := MapKept.run_getObj_map (P := Try.prog) hb
  unfold Instr.lookup
  simp only [Sem.run_bind, run_underlying Try.underlying130, Result.andThen, hg, Sem.run_pure]
  have e : (#[({ key := .int .i64 0, val := kindV 103 104, born := 0 } : MapEntry), { key := .int .i64 1, val := kindV 105 106, born := 1 }, { key := .int .i64 2, val := kindV 107 108, born := 2 }].isEmpty) = false := rfl
  rw [e]
  simp only [h1, h2]
  unfold kindOf
  by_cases h0 : k = 0
  · subst h0; cases c <;> rfl
  · by_cases h1' : k = 1
    · subst h1'; cases c <;> rfl
    · by_cases h2' : k = 2
      · subst h2'; cases c <;> rfl
      · simp only [if_neg h0, if_neg h1', if_neg h2', Sem.run_bind, zero129, Result.andThen, Sem.run_pure]
set_option maxHeartbeats 1000000 in
theorem kinds89N (w : World) : Calls Try.prog 89 #[] w fun e w' => e = .returned (.map (some w.heap.size)) ∧ w'.heap[w.heap.size]? = some kindM ∧ Below w.heap.size w w' := by
  have hb0 : Below w.heap.size w (w.alloc (.map #[] 0)) := (Below.refl _ w).alloc (Nat.le_refl _) _
  have q0 : (w.alloc (.map #[] 0)).heap[w.heap.size]? = some (.map #[] 0) := World.alloc_heap_new w _
  have r0 : (Instr.makeMap 130 none).run Try.prog w = .ok (.map (some w.heap.size)) (w.alloc (.map #[] 0)) := rfl
  have r1 : (Instr.mapUpdate 130 (.map (some w.heap.size)) (.int .i64 0) (.agg #[.func (.func 103) #[] #[], .func (.func 104) #[] #[]])).run Try.prog (w.alloc (.map #[] 0)) = .ok () ((w.alloc (.map #[] 0)).putObj w.heap.size (.map #[{ key := .int .i64 0, val := (.agg #[.func (.func 103) #[] #[], .func (.func 104) #[] #[]]), born := 0 }] 1)) := run_mapUpdate q0 rfl
  have q1 : ((w.alloc (.map #[] 0)).putObj w.heap.size (.map #[{ key := .int .i64 0, val := (.agg #[.func (.func 103) #[] #[], .func (.func 104) #[] #[]]), born := 0 }] 1)).heap[w.heap.size]? = some (.map #[{ key := .int .i64 0, val := (.agg #[.func (.func 103) #[] #[], .func (.func 104) #[] #[]]), born := 0 }] 1) := World.putObj_heap_same (heap_lt q0)
  have r2 : (Instr.mapUpdate 130 (.map (some w.heap.size)) (.int .i64 1) (.agg #[.func (.func 105) #[] #[], .func (.func 106) #[] #[]])).run Try.prog ((w.alloc (.map #[] 0)).putObj w.heap.size (.map #[{ key := .int .i64 0, val := (.agg #[.func (.func 103) #[] #[], .func (.func 104) #[] #[]]), born := 0 }] 1)) = .ok () (((w.alloc (.map #[] 0)).putObj w.heap.size (.map #[{ key := .int .i64 0, val := (.agg #[.func (.func 103) #[] #[], .func (.func 104) #[] #[]]), born := 0 }] 1)).putObj w.heap.size (.map #[{ key := .int .i64 0, val := (.agg #[.func (.func 103) #[] #[], .func (.func 104) #[] #[]]), born := 0 }, { key := .int .i64 1, val := (.agg #[.func (.func 105) #[] #[], .func (.func 106) #[] #[]]), born := 1 }] 2)) := run_mapUpdate q1 rfl
  have q2 : (((w.alloc (.map #[] 0)).putObj w.heap.size (.map #[{ key := .int .i64 0, val := (.agg #[.func (.func 103) #[] #[], .func (.func 104) #[] #[]]), born := 0 }] 1)).putObj w.heap.size (.map #[{ key := .int .i64 0, val := (.agg #[.func (.func 103) #[] #[], .func (.func 104) #[] #[]]), born := 0 }, { key := .int .i64 1, val := (.agg #[.func (.func 105) #[] #[], .func (.func 106) #[] #[]]), born := 1 }] 2)).heap[w.heap.size]? = some (.map #[{ key := .int .i64 0, val := (.agg #[.func (.func 103) #[] #[], .func (.func 104) #[] #[]]), born := 0 }, { key := .int .i64 1, val := (.agg #[.func (.func 105) #[] #[], .func (.func 106) #[] #[]]), born := 1 }] 2) := World.putObj_heap_same (heap_lt q1)
  have r3 : (Instr.mapUpdate 130 (.map (some w.heap.size)) (.int .i64 2) (.agg #[.func (.func 107) #[] #[], .func (.func 108) #[] #[]])).run Try.prog (((w.alloc (.map #[] 0)).putObj w.heap.size (.map #[{ key := .int .i64 0, val := (.agg #[.func (.func 103) #[] #[], .func (.func 104) #[] #[]]), born := 0 }] 1)).putObj w.heap.size (.map #[{ key := .int .i64 0, val := (.agg #[.func (.func 103) #[] #[], .func (.func 104) #[] #[]]), born := 0 }, { key := .int .i64 1, val := (.agg #[.func (.func 105) #[] #[], .func (.func 106) #[] #[]]), born := 1 }] 2)) = .ok () ((((w.alloc (.map #[] 0)).putObj w.heap.size (.map #[{ key := .int .i64 0, val := (.agg #[.func (.func 103) #[] #[], .func (.func 104) #[] #[]]), born := 0 }] 1)).putObj w.heap.size (.map #[{ key := .int .i64 0, val := (.agg #[.func (.func 103) #[] #[], .func (.func 104) #[] #[]]), born := 0 }, { key := .int .i64 1, val := (.agg #[.func (.func 105) #[] #[], .func (.func 106) #[] #[]]), born := 1 }] 2)).putObj w.heap.size (.map #[{ key := .int .i64 0, val := (.agg #[.func (.func 103) #[] #[], .func (.func 104) #[] #[]]), born := 0 }, { key := .int .i64 1, val := (.agg #[.func (.func 105) #[] #[], .func (.func 106) #[] #[]]), born := 1 }, { key := .int .i64 2, val := (.agg #[.func (.func 107) #[] #[], .func (.func 108) #[] #[]]), born := 2 }] 3)) := run_mapUpdate q2 rfl
  have q3 : ((((w.alloc (.map #[] 0)).putObj w.heap.size (.map #[{ key := .int .i64 0, val := (.agg #[.func (.func 103) #[] #[], .func (.func 104) #[] #[]]), born := 0 }] 1)).putObj w.heap.size (.map #[{ key := .int .i64 0, val := (.agg #[.func (.func 103) #[] #[], .func (.func 104) #[] #[]]), born := 0 }, { key := .int .i64 1, val := (.agg #[.func (.func 105) #[] #[], .func (.func 106) #[] #[]]), born := 1 }] 2)).putObj w.heap.size (.map #[{ key := .int .i64 0, val := (.agg #[.func (.func 103) #[] #[], .func (.func 104) #[] #[]]), born := 0 }, { key := .int .i64 1, val := (.agg #[.func (.func 105) #[] #[], .func (.func 106) #[] #[]]), born := 1 }, { key := .int .i64 2, val := (.agg #[.func (.func 107) #[] #[], .func (.func 108) #[] #[]]), born := 2 }] 3)).heap[w.heap.size]? = some (.map #[{ key := .int .i64 0, val := (.agg #[.func (.func 103) #[] #[], .func (.func 104) #[] #[]]), born := 0 }, { key := .int .i64 1, val := (.agg #[.func (.func 105) #[] #[], .func (.func 106) #[] #[]]), born := 1 }, { key := .int .i64 2, val := (.agg #[.func (.func 107) #[] #[], .func (.func 108) #[] #[]]), born := 2 }] 3) := World.putObj_heap_same (heap_lt q2)
  have HQ : Hid (((((w.alloc (.map #[] 0)).putObj w.heap.size (.map #[{ key := .int .i64 0, val := (.agg #[.func (.func 103) #[] #[], .func (.func 104) #[] #[]]), born := 0 }] 1)).putObj w.heap.size (.map #[{ key := .int .i64 0, val := (.agg #[.func (.func 103) #[] #[], .func (.func 104) #[] #[]]), born := 0 }, { key := .int .i64 1, val := (.agg #[.func (.func 105) #[] #[], .func (.func 106) #[] #[]]), born := 1 }] 2)).putObj w.heap.size (.map #[{ key := .int .i64 0, val := (.agg #[.func (.func 103) #[] #[], .func (.func 104) #[] #[]]), born := 0 }, { key := .int .i64 1, val := (.agg #[.func (.func 105) #[] #[], .func (.func 106) #[] #[]]), born := 1 }, { key := .int .i64 2, val := (.agg #[.func (.func 107) #[] #[], .func (.func 108) #[] #[]]), born := 2 }] 3)).heap[w.heap.size]? = some kindM) := q3
  have HB : Hid (Below w.heap.size w ((((w.alloc (.map #[] 0)).putObj w.heap.size (.map #[{ key := .int .i64 0, val := (.agg #[.func (.func 103) #[] #[], .func (.func 104) #[] #[]]), born := 0 }] 1)).putObj w.heap.size (.map #[{ key := .int .i64 0, val := (.agg #[.func (.func 103) #[] #[], .func (.func 104) #[] #[]]), born := 0 }, { key := .int .i64 1, val := (.agg #[.func (.func 105) #[] #[], .func (.func 106) #[] #[]]), born := 1 }] 2)).putObj w.heap.size (.map #[{ key := .int .i64 0, val := (.agg #[.func (.func 103) #[] #[], .func (.func 104) #[] #[]]), born := 0 }, { key := .int .i64 1, val := (.agg #[.func (.func 105) #[] #[], .func (.func 106) #[] #[]]), born := 1 }, { key := .int .i64 2, val := (.agg #[.func (.func 107) #[] #[], .func (.func 108) #[] #[]]), born := 2 }] 3))) := ⟨hb0.os, hb0.tape, hb0.output, by simp, fun k hk => by rw [World.putObj_heap_other (by omega), World.putObj_heap_other (by omega), World.putObj_heap_other (by omega)]; exact hb0.block k hk⟩
  clear q0 q1 q2 q3 hb0
  go_enter Try.func89, Try.ntmps89
  go_wp2_with fail
  go_ret
  exact ⟨rfl, HQ.out, HB.out⟩
theorem kinds89 (w : World) : Calls Try.prog 89 #[] w fun e w' => ∃ b, e = .returned (.map (some b)) ∧ w'.heap[b]? = some kindM ∧ Below w.heap.size w w' :=
  (kinds89N w).mono fun e w' ⟨h1, h2, h3⟩ => ⟨_, h1, h2, h3⟩
/-- A deal's cells in a block. -/
structure DlC (w : World) (b : Nat) (d : Dl) (a : Option Addr) (c : Nat) : Prop where
  c0 : w.cell? ⟨b, 0, none⟩ = some (.int .i64 d.kind)
  c1 : w.cell? ⟨b, 1, none⟩ = some (.slice a d.forme.slots.length c)
  c2 : w.cell? ⟨b, 2, none⟩ = some (.int .i64 d.forme.times)
  c3 : w.cell? ⟨b, 3, none⟩ = some (.int .i64 d.view)
  c4 : w.cell? ⟨b, 4, none⟩ = some (.int .i64 d.many)
  c5 : w.cell? ⟨b, 5, none⟩ = some (.int .i64 d.pence)
theorem dl_cells {w : World} {b : Nat} {d : Dl} {a : Option Addr} {c : Nat} {t : TypeId} (hq : w.heap[b]? = some (.cells (d.arr a c) t (0, 0))) : DlC w b d a c := by
  refine ⟨?_, ?_, ?_, ?_, ?_, ?_⟩ <;> (rw [cell_of_heap hq]; rfl)
theorem DlC.mono {w w' : World} {b : Nat} {d : Dl} {a : Option Addr} {c : Nat} (h : DlC w b d a c) (hb : Below w.heap.size w w') : DlC w' b d a c :=
  ⟨cell_stays hb h.c0, cell_stays hb h.c1, cell_stays hb h.c2, cell_stays hb h.c3, cell_stays hb h.c4, cell_stays hb h.c5⟩
theorem bool_and2 (a b : Bool) : a = false ∨ (a = true ∧ b = false) ∨ (a = true ∧ b = true) := by cases a <;> cases b <;> simp
theorem bool_and3 (a b c : Bool) : a = false ∨ (a = true ∧ b = false) ∨ (a = true ∧ b = true ∧ c = false) ∨ (a = true ∧ b = true ∧ c = true) := by cases a <;> cases b <;> cases c <;> simp
theorem bool_and4 (a b c d : Bool) : a = false ∨ (a = true ∧ b = false) ∨ (a = true ∧ b = true ∧ c = false) ∨ (a = true ∧ b = true ∧ c = true ∧ d = false) ∨ (a = true ∧ b = true ∧ c = true ∧ d = true) := by cases a <;> cases b <;> cases c <;> cases d <;> simp
set_option maxHeartbeats 1000000 in
theorem kind103 {p : Prs} {A : PrsA} {d : Dl} {a : Option Addr} {c : Nat} {w : World} :
    Calls Try.prog 103 #[p.v A, d.v a c] w fun e w' => e = .returned (.bool (inR d.many 1 1048576 && inR d.pence 0 1099511627776)) ∧ Below w.heap.size w w' := by
  have HX := Lib.hid (alloc2 w (p.arr A) (d.arr a c) 27 62)
  go_enter Try.func103, Try.ntmps103
  refine wp_seq_hid ?_
  intro K0 HK0
  go_wp2_with fail
  refine HK0.out _ _ ?_
  clear HK0 K0
  revert HX
  generalize (w.alloc (.cells (p.arr A) 27)).alloc (.cells (d.arr a c) 62) = w1
  generalize w.heap.size + 1 = b1
  intro HX
  obtain ⟨k0, k1, k2, k3, k4, k5⟩ := dl_cells HX.out.2.1
  obtain ⟨e1, he1⟩ : ∃ e, inR d.many 1 1048576 = e := ⟨_, rfl⟩
  obtain ⟨e2, he2⟩ : ∃ e, inR d.pence 0 1099511627776 = e := ⟨_, rfl⟩
  have C1 := within_any d.many 1 1048576 w1
  have C2 := pence_any d.pence w1
  rw [he1] at C1 ⊢
  rw [he2] at C2 ⊢
  have H1 := Lib.hid C1
  have H2 := Lib.hid C2
  clear C1 C2 he1 he2
  rcases bool_and2 e1 e2 with rfl | ⟨rfl, rfl⟩ | ⟨rfl, rfl⟩
  all_goals
    go_wp2_with (first
      | (go_at_call 60; refine H1.out.mono ?_; rintro e w' ⟨rfl, rfl⟩)
      | (go_at_call 93; refine H2.out.mono ?_; rintro e w' ⟨rfl, rfl⟩))
    all_goals first
      | (refine ⟨fun _ _ => trivial, ?_⟩; go_wp2_with fail)
      | skip
    go_ret
    exact ⟨rfl, HX.out.2.2⟩
set_option maxHeartbeats 1000000 in
theorem kind105 {p : Prs} {A : PrsA} {d : Dl} {a : Option Addr} {c : Nat} {w : World} (hf : IsInts w a d.forme.slots) (hl : d.forme.slots.length ≤ 1000) :
    Calls Try.prog 105 #[p.v A, d.v a c] w fun e w' => e = .returned (.bool (fmeOk p d.forme)) ∧ Below w.heap.size w w' := by
  have HX := Lib.hid (alloc2 w (p.arr A) (d.arr a c) 27 62)
  have HF := Lib.hid (hf.mono (alloc2 w (p.arr A) (d.arr a c) 27 62).2.2)
  clear hf
  go_enter Try.func105, Try.ntmps105
  refine wp_seq_hid ?_
  intro K0 HK0
  go_wp2_with fail
  refine HK0.out _ _ ?_
  clear HK0 K0
  revert HX HF
  generalize (w.alloc (.cells (p.arr A) 27)).alloc (.cells (d.arr a c) 62) = w1
  generalize w.heap.size + 1 = b1
  intro HX HF
  obtain ⟨k0, k1, k2, k3, k4, k5⟩ := dl_cells HX.out.2.1
  obtain ⟨m0, m1, m2, m3, m4, m5, m6, m7, m8, m9⟩ := prs_cells HX.out.1
  go_wp2_with fail
  refine (isForme44 (c := c) HF.out hl).mono ?_
  rintro e w2 ⟨rfl, hb⟩
  have HB := Lib.hid (HX.out.2.2.trans (hb.mono HX.out.2.2.size))
  clear hb k0 k1 k2 k3 k4 k5 m0 m1 m2 m3 m4 m5 m6 m7 m8 m9
  go_wp2_with fail
  go_ret
  exact ⟨rfl, HB.out⟩
set_option maxHeartbeats 1000000 in
theorem kind107 {p : Prs} {A : PrsA} {d : Dl} {a : Option Addr} {c : Nat} {w : World} (hl : p.wanted.length ≤ 1000) :
    Calls Try.prog 107 #[p.v A, d.v a c] w fun e w' => e = .returned (.bool (inR d.view 0 ((p.wanted.length : Int) - 1) && inR d.many 1 1048576 && inR d.pence 0 1099511627776)) ∧ Below w.heap.size w w' := by
  have HX := Lib.hid (alloc2 w (p.arr A) (d.arr a c) 27 62)
  go_enter Try.func107, Try.ntmps107
  refine wp_seq_hid ?_
  intro K0 HK0
  go_wp2_with fail
  refine HK0.out _ _ ?_
  clear HK0 K0
  revert HX
  generalize (w.alloc (.cells (p.arr A) 27)).alloc (.cells (d.arr a c) 62) = w1
  generalize w.heap.size + 1 = b1
  intro HX
  obtain ⟨k0, k1, k2, k3, k4, k5⟩ := dl_cells HX.out.2.1
  have pc := prs_cells HX.out.1
  have m6 := pc.c6
  have v1 : IntKind.i64.wrap ((p.wanted.length : Int) - 1) = (p.wanted.length : Int) - 1 := IntWalk.i64_in _ (by omega)
  clear pc
  obtain ⟨e0, he0⟩ : ∃ e, inR d.view 0 ((p.wanted.length : Int) - 1) = e := ⟨_, rfl⟩
  obtain ⟨e1, he1⟩ : ∃ e, inR d.many 1 1048576 = e := ⟨_, rfl⟩
  obtain ⟨e2, he2⟩ : ∃ e, inR d.pence 0 1099511627776 = e := ⟨_, rfl⟩
  have C0 := within_any d.view 0 ((p.wanted.length : Int) - 1) w1
  have C1 := within_any d.many 1 1048576 w1
  have C2 := pence_any d.pence w1
  rw [he0] at C0 ⊢
  rw [he1] at C1 ⊢
  rw [he2] at C2 ⊢
  have H0 := Lib.hid C0
  have H1 := Lib.hid C1
  have H2 := Lib.hid C2
  clear C0 C1 C2 he0 he1 he2
  rcases bool_and3 e0 e1 e2 with rfl | ⟨rfl, rfl⟩ | ⟨rfl, rfl, rfl⟩ | ⟨rfl, rfl, rfl⟩
  all_goals
    go_wp2_with (first
      | (go_at_call 60; first | ((with_reducible refine H0.out.mono ?_); rintro e w' ⟨rfl, rfl⟩) | ((with_reducible refine H1.out.mono ?_); rintro e w' ⟨rfl, rfl⟩))
      | (go_at_call 93; refine H2.out.mono ?_; rintro e w' ⟨rfl, rfl⟩))
    all_goals first
      | (refine ⟨fun _ _ => trivial, ?_⟩; go_wp2_with fail)
      | skip
    go_ret
    exact ⟨rfl, HX.out.2.2⟩
end Go.Proofs.Ytjkhclijmcmdjaa
