/- Orders that are compared. -/
import Derived.Test.YtnfhlbmapfoifaaW40
namespace Go.Proofs.Ytnfhlbmapfoifaa
open Go.RowKit
set_option linter.unusedVariables false

structure cm9F (b8 : Nat) (b9 : Nat) (al : Int) (ah : Int) (bl : Int) (bh : Int) (S0 : World → Prop) (S1 : World → Prop) (S2 : World → Prop) (d : Nat → Bool) (x40 x41 : Value) (w : World) : Prop where
  q2 : d 2 = true → d 0 = true
  q3 : d 3 = true → d 0 = true ∧ d 1 = true ∧ d 2 = true
  f0 : d 0 = true → x40 = .agg #[.int .u64 al, .int .u64 ah]
  f1 : d 1 = true → x41 = .agg #[.int .u64 bl, .int .u64 bh]
  st0 : d 2 = false → S0 w
  st1 : d 2 = true → d 3 = false → S1 w
  st2 : d 3 = true → S2 w
noncomputable def cm9C : Code := (Try.f69.body.bind (regionAt 9)).getD .skip
set_option maxRecDepth 100000 in
set_option maxHeartbeats 4000000 in
theorem cm9 {b8 : Nat} {b9 : Nat} {al : Int} {ah : Int} {bl : Int} {bh : Int} {S0 : World → Prop} {S1 : World → Prop} {S2 : World → Prop} {Q : Exit → Act → World → Prop} {W1 : World} (h0 : S0 W1.drew)
    (kl0 : Hid (∀ (w : World), (S0 w) → w.cell? ⟨b8, 0, none⟩ = some (.int .u64 al) ∧ w.cell? ⟨b8, 1, none⟩ = some (.int .u64 ah)))
    (kl1 : Hid (∀ (w : World), (S0 w ∨ S1 w) → w.cell? ⟨b9, 0, none⟩ = some (.int .u64 bl) ∧ w.cell? ⟨b9, 1, none⟩ = some (.int .u64 bh)))
    (kc2 : Hid (∀ (w : World), S0 w → (∃ u, w.cell? ⟨b8, 0, none⟩ = some u) ∧ w.frozen? ⟨b8, 0, none⟩ = false ∧ (∃ u, w.cell? ⟨b8, 1, none⟩ = some u) ∧ w.frozen? ⟨b8, 1, none⟩ = false ∧ S1 ((w.setCell ⟨b8, 0, none⟩ (.int .u64 al)).setCell ⟨b8, 1, none⟩ (.int .u64 ah))))
    (kc3 : Hid (∀ (w : World), S1 w → (∃ u, w.cell? ⟨b9, 0, none⟩ = some u) ∧ w.frozen? ⟨b9, 0, none⟩ = false ∧ (∃ u, w.cell? ⟨b9, 1, none⟩ = some u) ∧ w.frozen? ⟨b9, 1, none⟩ = false ∧ S2 ((w.setCell ⟨b9, 0, none⟩ (.int .u64 bl)).setCell ⟨b9, 1, none⟩ (.int .u64 bh))))
    {s0 s1 s2 s3 s4 s5 s6 s7 s10 s11 s12 s13 s14 s15 s16 s17 s18 s19 s20 s21 s22 s23 s24 s25 s26 s27 s28 s29 s30 s31 s32 s33 s34 s35 s36 s37 s38 s39 s40 s41 : Value} {dd : List Deferred}
    (hQ : ∀ (w' : World), S2 w' → Q .normal { tmps := #[s0, s1, s2, s3, s4, s5, s6, s7, .pointer (some ⟨b8, 0, none⟩), .pointer (some ⟨b9, 0, none⟩), s10, s11, s12, s13, s14, s15, s16, s17, s18, s19, s20, s21, s22, s23, s24, s25, s26, s27, s28, s29, s30, s31, s32, s33, s34, s35, s36, s37, s38, s39, .agg #[.int .u64 al, .int .u64 ah], .agg #[.int .u64 bl, .int .u64 bh]], defers := dd } w') :
    Code.wpIn (wideAt none) 0 Try.prog cm9C Q { tmps := #[s0, s1, s2, s3, s4, s5, s6, s7, .pointer (some ⟨b8, 0, none⟩), .pointer (some ⟨b9, 0, none⟩), s10, s11, s12, s13, s14, s15, s16, s17, s18, s19, s20, s21, s22, s23, s24, s25, s26, s27, s28, s29, s30, s31, s32, s33, s34, s35, s36, s37, s38, s39, s40, s41], defers := dd } W1 := by
  have HQ := Lib.hid hQ
  clear hQ
  conv => arg 4; whnf
  refine wpIn_region_invG mixed (by kernel_rfl) (fun d_ a_ w' => ∃ (x40 : Value) (x41 : Value), a_ = { tmps := #[s0, s1, s2, s3, s4, s5, s6, s7, .pointer (some ⟨b8, 0, none⟩), .pointer (some ⟨b9, 0, none⟩), s10, s11, s12, s13, s14, s15, s16, s17, s18, s19, s20, s21, s22, s23, s24, s25, s26, s27, s28, s29, s30, s31, s32, s33, s34, s35, s36, s37, s38, s39, x40, x41], defers := dd } ∧ cm9F b8 b9 al ah bl bh S0 S1 S2 d_ x40 x41 w') ?_ ?_ ?_
  · refine ⟨s40, s41, rfl, ?_⟩
    constructor <;> first | rfl | (intro _; rfl) | (intro h; cases h; done) | (intro _; exact h0) | exact h0
  · refine ⟨?_, ?_, ?_, ?_, trivial⟩
    all_goals
      rintro d_ a_ w1 K hd_ hdep ⟨x40, x41, rfl, F⟩ HK
      simp [Region.binds] at hdep
    · have hst : S0 w1 := by
        have n_ : d_ 2 = false := by
          cases e_ : d_ 2 with
          | false => rfl
          | true => have h2 := (F.q2 e_); rw [show d_ 0 = false from hd_] at h2; cases h2
        exact (F.st0 n_)
      have kk := kl0.out w1 hst
      obtain ⟨kk0, kk1⟩ := kk
      clear hst
      have HF : Hid (cm9F b8 b9 al ah bl bh S0 S1 S2 (upd d_ 0) (.agg #[.int .u64 al, .int .u64 ah]) x41 w1) := ⟨fun h => rfl, fun h => ⟨rfl, (F.q3 h).2.1, (F.q3 h).2.2⟩, fun _ => rfl, F.f1, F.st0, F.st1, F.st2⟩
      clear F
      go_simp
      exact HK.out _ _ ⟨_, _, rfl, HF.out⟩
    · have hst : S0 w1 ∨ S1 w1 := by
        cases e1 : d_ 2 with
        | false => exact .inl ((F.st0 e1))
        | true =>
          have n_ : d_ 3 = false := by
            cases e_ : d_ 3 with
            | false => rfl
            | true => have h2 := (F.q3 e_).2.1; rw [show d_ 1 = false from hd_] at h2; cases h2
          exact .inr ((F.st1 e1 n_))
      have kk := kl1.out w1 hst
      obtain ⟨kk0, kk1⟩ := kk
      clear hst
      have HF : Hid (cm9F b8 b9 al ah bl bh S0 S1 S2 (upd d_ 1) x40 (.agg #[.int .u64 bl, .int .u64 bh]) w1) := ⟨F.q2, fun h => ⟨(F.q3 h).1, rfl, (F.q3 h).2.2⟩, F.f0, fun _ => rfl, F.st0, F.st1, F.st2⟩
      clear F
      go_simp
      exact HK.out _ _ ⟨_, _, rfl, HF.out⟩
    · have hS := F.st0  hd_
      obtain rfl := F.f0 (by simp [hdep])
      obtain ⟨⟨u0, kcell0⟩, kfr0, ⟨u1, kcell1⟩, kfr1, hres⟩ := kc2.out w1 hS
      have HF : Hid (cm9F b8 b9 al ah bl bh S0 S1 S2 (upd d_ 2) (.agg #[.int .u64 al, .int .u64 ah]) x41 ((w1.setCell ⟨b8, 0, none⟩ (.int .u64 al)).setCell ⟨b8, 1, none⟩ (.int .u64 ah))) := ⟨fun _ => (show _ from (by simp [hdep] : d_ 0 = true)), fun h => ⟨(F.q3 h).1, (F.q3 h).2.1, rfl⟩, F.f0, F.f1, fun h => (by simp [upd] at h), fun _ _ => hres, fun h => (by have h2 : d_ 2 = true := (F.q3 h).2.2; rw [show d_ 2 = false from hd_] at h2; cases h2)⟩
      clear F hS hres
      go_simp
      exact HK.out _ _ ⟨_, _, rfl, HF.out⟩
    · have hS := F.st1 (by simp [hdep] : d_ 2 = true) hd_
      obtain rfl := F.f1 (by simp [hdep])
      obtain ⟨⟨u0, kcell0⟩, kfr0, ⟨u1, kcell1⟩, kfr1, hres⟩ := kc3.out w1 hS
      have HF : Hid (cm9F b8 b9 al ah bl bh S0 S1 S2 (upd d_ 3) x40 (.agg #[.int .u64 bl, .int .u64 bh]) ((w1.setCell ⟨b9, 0, none⟩ (.int .u64 bl)).setCell ⟨b9, 1, none⟩ (.int .u64 bh))) := ⟨F.q2, fun _ => ⟨(show _ from (by simp [hdep] : d_ 0 = true)), (show _ from (by simp [hdep] : d_ 1 = true)), (show _ from (by simp [hdep] : d_ 2 = true))⟩, F.f0, F.f1, fun h => (by have h2 : d_ 2 = false := h; rw [(by simp [hdep] : d_ 2 = true)] at h2; cases h2), fun _ h => (by simp [upd] at h), fun _ => hres⟩
      clear F hS hres
      go_simp
      exact HK.out _ _ ⟨_, _, rfl, HF.out⟩
  · rintro d_ a_ w1 hall ⟨x40, x41, rfl, F⟩
    have hall' : ∀ k, k < 4 → d_ k = true := hall
    obtain rfl := F.f0 (hall' 0 (by decide))
    obtain rfl := F.f1 (hall' 1 (by decide))
    have hst := F.st2 (hall' 3 (by decide))
    exact HQ.out  w1 hst
theorem heap3' (w : World) (a b c : Obj) : let W := ((w.alloc a).alloc b).alloc c
    W.heap[w.heap.size]? = some a ∧ W.heap[w.heap.size + 1]? = some b ∧ W.heap[w.heap.size + 1 + 1]? = some c ∧ W.heap.size = w.heap.size + 3 ∧ Below w.heap.size w W := by
  have q0 := World.alloc_heap_new w a
  have q1 := World.alloc_heap_new (w.alloc a) b
  have q2 := World.alloc_heap_new ((w.alloc a).alloc b) c
  simp only [World.size_alloc] at q1 q2
  refine ⟨?_, ?_, q2, by simp, (((Below.refl _ w).alloc (Nat.le_refl _) _).alloc (by simp) _).alloc (by simp; omega) _⟩
  · rw [Below.heap_alloc _ _ _ (by simp <;> omega), Below.heap_alloc _ _ _ (by simp)]; exact q0
  · rw [Below.heap_alloc _ _ _ (by simp)]; exact q1
theorem leftA_zero : leftA 0 = #[.int .u64 0, .int .u64 0] := by simp [loN, hiN]
def fBef (os : List (List Int)) (S a b k : Nat) : Bool := S.testBit k && decide (indexL (os.getD k []) a < indexL (os.getD k []) b)
def fAft (os : List (List Int)) (S a b k : Nat) : Bool := S.testBit k && !decide (indexL (os.getD k []) a < indexL (os.getD k []) b)
theorem befS_eq (os : List (List Int)) (S a b : Nat) : befS os S a b = cmpS (fBef os S a b) os.length := rfl
theorem aftS_eq (os : List (List Int)) (S a b : Nat) : aftS os S a b = cmpS (fAft os S a b) os.length := rfl
theorem res_cc95 {fn : Func} {q p : Tmp} (h : fn.results = #[.cell q 95, .cell p 95]) (tmps : Array Value) {w : World} {a b : Nat} {x y x' y' : Value} (hq : tmps.getD q undef = .pointer (some ⟨a, 0, none⟩)) (hp : tmps.getD p undef = .pointer (some ⟨b, 0, none⟩)) (hx : w.cell? ⟨a, 0, none⟩ = some x) (hy : w.cell? ⟨a, 1, none⟩ = some y) (hx' : w.cell? ⟨b, 0, none⟩ = some x') (hy' : w.cell? ⟨b, 1, none⟩ = some y') :
    (results fn tmps).run Try.prog w = .ok (.tuple #[.agg #[x, y], .agg #[x', y']]) w := by
  have hp' : tmps[p]?.getD undef = .pointer (some ⟨b, 0, none⟩) := by simpa using hp
  have hq' : tmps[q]?.getD undef = .pointer (some ⟨a, 0, none⟩) := by simpa using hq
  simp [results, h, hp', hq', hx, hy, hx', hy', go_sem]
set_option maxRecDepth 100000 in
set_option maxHeartbeats 4000000 in
theorem compared_any {w : World} {sb mb n : Nat} {v : Value} {os : List (List Int)} {S a b : Nat} (hS : Srt w sb mb n v os) (hos : os.length ≤ 128) (hl : ∀ o ∈ os, o.length ≤ 16) (hSl : S < 2 ^ 128) :
    Calls Try.prog 69 #[.pointer (some ⟨sb, 0, none⟩), leftV S, .int .i64 a, .int .i64 b] w fun e w' => e = .returned (.tuple #[leftV (befS os S a b), leftV (aftS os S a b)]) ∧ Below w.heap.size w w' := by
  obtain ⟨vs, hr1, hr2⟩ := hS.r
  obtain ⟨av, cv, rfl, hcv, _⟩ := own_slice hr1
  have HR : Hid (∀ w', Below w.heap.size w w' → ∀ k, k < os.length → ∃ g vc, av = some ⟨g, 0, none⟩ ∧ w'.cell? ⟨g, k, none⟩ = some vc ∧ ∃ ax cx, vc = .slice ax (os.getD k []).length cx ∧ IsInts w' ax (os.getD k [])) := by
    intro w' hb k hk
    obtain ⟨g, cp, e, _, _, _, _, hc⟩ := own_cell hr1 (by omega)
    cases e
    have hk' : os[k]? = some (os.getD k []) := by simp [hk]
    obtain ⟨vc, h1, h2⟩ := hr2.2 k _ hk'
    obtain ⟨ax, cx, rfl, _⟩ := own_slice h2
    exact ⟨g, _, rfl, cell_stays hb (hc k _ h1), ax, cx, rfl, (own_ints h2).mono hb⟩
  have HL : Hid (∀ k, k < os.length → (os.getD k []).length ≤ 16) := fun k hk => by
    have e : os.getD k [] = os[k] := by simp [hk]
    rw [e]; exact hl _ (List.getElem_mem hk)
  have HS := Lib.hid hS
  have hq0 := hS.s
  have HSl := Lib.hid hSl
  clear hS hr1 hr2 hSl hl
  go_enter Try.func69, Try.ntmps69
  go_wp2_with fail
  obtain ⟨q0, q1, q2, hz, hb⟩ := heap3' w (.cells (leftA S) 95) (.cells #[.int .u64 0, .int .u64 0] 95) (.cells #[.int .u64 0, .int .u64 0] 95)
  revert q0 q1 q2 hz hb
  generalize (((w.alloc (.cells (leftA S) 95)).alloc (.cells #[.int .u64 0, .int .u64 0] 95)).alloc (.cells #[.int .u64 0, .int .u64 0] 95)) = W1
  intro q0 q1 q2 hz hb
  have s1 := (hb.block _ (heap_lt hq0)).trans hq0
  have c0 : W1.cell? ⟨sb, 0, none⟩ = some (.int .i64 n) := by rw [cell_of_heap s1]; rfl
  have c1 : W1.cell? ⟨sb, 1, none⟩ = some (.slice av os.length cv) := by rw [cell_of_heap s1]; rfl
  have HW := Lib.hid (And.intro q0 (And.intro q1 (And.intro q2 (And.intro hz hb))))
  clear q0 q1 q2 hz hb s1 hq0
  have HC := Lib.hid (And.intro c0 c1)
  clear c0 c1
  go_step3
  go_wp2_with fail
  go_step3
  obtain ⟨c0, c1⟩ := HC.out
  have hlen : (os.length : Int) ≤ 128 := by omega
  go_wp2_with fail
  clear c0 c1
  go_loopw [17] (fun i wr => ∃ k : Nat, k ≤ os.length ∧ i = .int .i64 k ∧ Hid (Same (fun k => k = w.heap.size + 1 ∨ k = w.heap.size + 1 + 1) W1 wr ∧ wr.heap[w.heap.size + 1]? = some (.cells (leftA (cmpS (fBef os S a b) k)) 95 (0, 0)) ∧ wr.heap[w.heap.size + 1 + 1]? = some (.cells (leftA (cmpS (fAft os S a b) k)) 95 (0, 0)))) (fun i _ => os.length - (intOf i).toNat)
  case atStart => exact ⟨0, by omega, rfl, Same.refl _ _, by rw [cmpS_zero, leftA_zero]; exact HW.out.2.1, by rw [cmpS_zero, leftA_zero]; exact HW.out.2.2.1⟩
  case round =>
    obtain ⟨k, hk, rfl, HK⟩ := hrel
    obtain ⟨hs, h8, h9⟩ := HK.out
    obtain ⟨q0, q1, q2, hz, hb⟩ := HW.out
    have hbw : Below w.heap.size w wr := hb.trans (hs.below (by omega) (fun k hk e => by omega))
    have e5 := (hs.block _ (heap_lt q0) (by omega)).trans q0
    have d0 : wr.cell? ⟨w.heap.size, 0, none⟩ = some (.int .u64 (loN S)) := by rw [cell_of_heap e5]; rfl
    have d1 : wr.cell? ⟨w.heap.size, 1, none⟩ = some (.int .u64 (hiN S)) := by rw [cell_of_heap e5]; rfl
    have HBW := Lib.hid (And.intro hbw e5)
    clear hs h8 h9 q0 q1 q2 hz hb hbw e5
    by_cases hlt : k < os.length
    · obtain ⟨g, vc, rfl, hrc, ax, cx, rfl, hi⟩ := HR.out wr HBW.out.1 k hlt
      have hll := HL.out k hlt
      have HS8 := Lib.hid (cmpS_succ (fBef os S a b) k)
      have HS9 := Lib.hid (cmpS_succ (fAft os S a b) k)
      have HFB : Hid (fBef os S a b k = (S.testBit k && decide (indexL (os.getD k []) a < indexL (os.getD k []) b))) := rfl
      have HFA : Hid (fAft os S a b k = (S.testBit k && !decide (indexL (os.getD k []) a < indexL (os.getD k []) b))) := rfl
      obtain ⟨o, ho⟩ : ∃ o, os.getD k [] = o := ⟨_, rfl⟩
      rw [ho] at hrc hi hll HFB HFA
      clear ho
      have HI := Lib.hid hi
      clear hi
      go_wp2_with fail
      refine (has_any (S := S) (n := k) (by omega) HSl.out wr).mono ?_
      rintro e w4 ⟨rfl, hb4⟩
      clear d0 d1 hrc
      have H4 := Lib.hid hb4
      clear hb4
      cases ht : S.testBit k
      · have HT := Lib.hid ht
        clear ht
        go_wp2_with fail
        go_roundw
        case rel =>
          obtain ⟨hs, h8, h9⟩ := HK.out
          refine ⟨k + 1, by omega, by go_num, hs.trans (Same.of_below _ H4.out), ?_, ?_⟩
          · rw [HS8.out, HFB.out, HT.out]; exact (H4.out.block _ (heap_lt h8)).trans h8
          · rw [HS9.out, HFA.out, HT.out]; exact (H4.out.block _ (heap_lt h9)).trans h9
        case measure => simp [intOf]; omega
      · have HT := Lib.hid ht
        clear ht
        go_wp2_with fail
        refine (index_any (l := o) (v := (a : Int)) (by omega) (HI.out.mono H4.out)).mono ?_
        rintro e w' ⟨rfl, rfl⟩
        go_wp2_with fail
        refine (index_any (l := o) (v := (b : Int)) (by omega) (HI.out.mono H4.out)).mono ?_
        rintro e w' ⟨rfl, rfl⟩
        obtain ⟨hs, h8, h9⟩ := HK.out
        have h8' := (H4.out.block _ (heap_lt h8)).trans h8
        have h9' := (H4.out.block _ (heap_lt h9)).trans h9
        have f0 : w4.cell? ⟨w.heap.size + 1, 0, none⟩ = some (.int .u64 (loN (cmpS (fBef os S a b) k))) := by rw [cell_of_heap h8']; rfl
        have f1 : w4.cell? ⟨w.heap.size + 1, 1, none⟩ = some (.int .u64 (hiN (cmpS (fBef os S a b) k))) := by rw [cell_of_heap h8']; rfl
        have g0 : w4.cell? ⟨w.heap.size + 1 + 1, 0, none⟩ = some (.int .u64 (loN (cmpS (fAft os S a b) k))) := by rw [cell_of_heap h9']; rfl
        have g1 : w4.cell? ⟨w.heap.size + 1 + 1, 1, none⟩ = some (.int .u64 (hiN (cmpS (fAft os S a b) k))) := by rw [cell_of_heap h9']; rfl
        have HH8 := Lib.hid (And.intro h8' (And.intro h9' (hs.trans (Same.of_below _ H4.out))))
        clear hs h8 h9 h8' h9'
        by_cases hx : indexL o a < indexL o b
        · have hd : decide (indexL o a < indexL o b) = true := by simpa using hx
          have HX := Lib.hid (And.intro hx hd)
          clear hd
          go_wp2_with fail
          refine (with_any (S := cmpS (fBef os S a b) k) (n := k) (by omega) (cmpS_lt _ (by omega)) w4).mono ?_
          rintro e w6 ⟨rfl, hb6⟩
          have e1 : cmpS (fBef os S a b) k ||| 2 ^ k = cmpS (fBef os S a b) (k + 1) := by rw [HS8.out, HFB.out, HT.out, HX.out.2]; rfl
          rw [e1]
          obtain ⟨h8', h9', hs'⟩ := HH8.out
          have h86 := (hb6.block _ (heap_lt h8')).trans h8'
          obtain ⟨u0, m0⟩ : ∃ u, w6.cell? ⟨w.heap.size + 1, 0, none⟩ = some u := ⟨_, by rw [cell_of_heap h86]; rfl⟩
          obtain ⟨u1, m1⟩ : ∃ u, w6.cell? ⟨w.heap.size + 1, 1, none⟩ = some u := ⟨_, by rw [cell_of_heap h86]; rfl⟩
          have fz : ∀ k, w6.frozen? ⟨w.heap.size + 1, k, none⟩ = false := fun k => frozen_of_heap h86
          have H6 := Lib.hid (And.intro h86 (And.intro ((hb6.block _ (heap_lt h9')).trans h9') (hs'.trans (Same.of_below _ hb6))))
          clear h8' h9' hs' h86 hb6 f0 f1 g0 g1 e1 hx
          go_wp2_with fail
          go_roundw
          case rel =>
            obtain ⟨h86, h96, hs6⟩ := H6.out
            refine ⟨k + 1, by omega, by go_num, (hs6.setCell (.inl (.inl rfl)) _).setCell (.inl (.inl rfl)) _, ?_, ?_⟩
            · simpa using heap_setCell_at (k := 1) (heap_setCell_at (k := 0) h86 (.int .u64 (loN (cmpS (fBef os S a b) (k + 1))))) (.int .u64 (hiN (cmpS (fBef os S a b) (k + 1))))
            · have e2 : cmpS (fAft os S a b) (k + 1) = cmpS (fAft os S a b) k := by rw [HS9.out, HFA.out, HT.out, HX.out.2]; rfl
              rw [e2]
              exact (Below.heap_setCell _ _ _ _ (by show w.heap.size + 1 + 1 ≠ w.heap.size + 1; omega)).trans ((Below.heap_setCell _ _ _ _ (by show w.heap.size + 1 + 1 ≠ w.heap.size + 1; omega)).trans h96)
          case measure => simp [intOf]; omega
        · have hd : decide (indexL o a < indexL o b) = false := by simpa using hx
          have HX := Lib.hid (And.intro hx hd)
          clear hd
          go_wp2_with fail
          refine (with_any (S := cmpS (fAft os S a b) k) (n := k) (by omega) (cmpS_lt _ (by omega)) w4).mono ?_
          rintro e w6 ⟨rfl, hb6⟩
          have e1 : cmpS (fAft os S a b) k ||| 2 ^ k = cmpS (fAft os S a b) (k + 1) := by rw [HS9.out, HFA.out, HT.out, HX.out.2]; rfl
          rw [e1]
          obtain ⟨h8', h9', hs'⟩ := HH8.out
          have h96 := (hb6.block _ (heap_lt h9')).trans h9'
          obtain ⟨u0, m0⟩ : ∃ u, w6.cell? ⟨w.heap.size + 1 + 1, 0, none⟩ = some u := ⟨_, by rw [cell_of_heap h96]; rfl⟩
          obtain ⟨u1, m1⟩ : ∃ u, w6.cell? ⟨w.heap.size + 1 + 1, 1, none⟩ = some u := ⟨_, by rw [cell_of_heap h96]; rfl⟩
          have fz : ∀ k, w6.frozen? ⟨w.heap.size + 1 + 1, k, none⟩ = false := fun k => frozen_of_heap h96
          have H6 := Lib.hid (And.intro h96 (And.intro ((hb6.block _ (heap_lt h8')).trans h8') (hs'.trans (Same.of_below _ hb6))))
          clear h8' h9' hs' h96 hb6 f0 f1 g0 g1 e1 hx
          go_wp2_with fail
          go_roundw
          case rel =>
            obtain ⟨h96, h86, hs6⟩ := H6.out
            refine ⟨k + 1, by omega, by go_num, (hs6.setCell (.inl (.inr rfl)) _).setCell (.inl (.inr rfl)) _, ?_, ?_⟩
            · have e2 : cmpS (fBef os S a b) (k + 1) = cmpS (fBef os S a b) k := by rw [HS8.out, HFB.out, HT.out, HX.out.2]; rfl
              rw [e2]
              exact (Below.heap_setCell _ _ _ _ (by show w.heap.size + 1 ≠ w.heap.size + 1 + 1; omega)).trans ((Below.heap_setCell _ _ _ _ (by show w.heap.size + 1 ≠ w.heap.size + 1 + 1; omega)).trans h86)
            · simpa using heap_setCell_at (k := 1) (heap_setCell_at (k := 0) h96 (.int .u64 (loN (cmpS (fAft os S a b) (k + 1))))) (.int .u64 (hiN (cmpS (fAft os S a b) (k + 1))))
          case measure => simp [intOf]; omega
    · obtain rfl : k = os.length := by omega
      clear d0 d1
      go_wp2_with fail
      have E8 := Lib.hid (befS_eq os S a b)
      have E9 := Lib.hid (aftS_eq os S a b)
      refine wpIn_wide.1 (cm9 (b8 := w.heap.size + 1) (b9 := w.heap.size + 1 + 1) (al := loN (befS os S a b)) (ah := hiN (befS os S a b)) (bl := loN (aftS os S a b)) (bh := hiN (aftS os S a b)) (S0 := fun w' => Below wr.heap.size wr w') (S1 := fun w' => Same (fun k => k = w.heap.size + 1 ∨ k = w.heap.size + 1 + 1) wr w' ∧ w'.heap[w.heap.size + 1]? = some (.cells (leftA (befS os S a b)) 95 (0, 0)) ∧ w'.heap[w.heap.size + 1 + 1]? = some (.cells (leftA (aftS os S a b)) 95 (0, 0)))
        (S2 := fun w' => Same (fun k => k = w.heap.size + 1 ∨ k = w.heap.size + 1 + 1) wr w' ∧ w'.heap[w.heap.size + 1]? = some (.cells (leftA (befS os S a b)) 95 (0, 0)) ∧ w'.heap[w.heap.size + 1 + 1]? = some (.cells (leftA (aftS os S a b)) 95 (0, 0))) ?r0 ?r1 ?r2 ?r3 ?r4 ?rQ)
      case r0 => exact (Below.refl _ _).drew
      case r1 =>
        intro w' h
        have e := (h.block _ (heap_lt HK.out.2.1)).trans HK.out.2.1
        rw [E8.out]
        exact ⟨by rw [cell_of_heap e]; rfl, by rw [cell_of_heap e]; rfl⟩
      case r2 =>
        intro w' h
        have e : w'.heap[w.heap.size + 1 + 1]? = some (.cells (leftA (aftS os S a b)) 95 (0, 0)) := by
          rcases h with h | h
          · rw [E9.out]; exact (h.block _ (heap_lt HK.out.2.2)).trans HK.out.2.2
          · exact h.2.2
        exact ⟨by rw [cell_of_heap e]; rfl, by rw [cell_of_heap e]; rfl⟩
      case r3 =>
        intro w' h
        have e := (h.block _ (heap_lt HK.out.2.1)).trans HK.out.2.1
        have e' := (h.block _ (heap_lt HK.out.2.2)).trans HK.out.2.2
        rw [← E8.out] at e
        rw [← E9.out] at e'
        refine ⟨⟨_, by rw [cell_of_heap e]; rfl⟩, frozen_of_heap e, ⟨_, by rw [cell_of_heap e]; rfl⟩, frozen_of_heap e, ((Same.of_below (fun k => k = w.heap.size + 1 ∨ k = w.heap.size + 1 + 1) h).setCell (p := ⟨w.heap.size + 1, 0, none⟩) (.inl (.inl rfl)) _).setCell (p := ⟨w.heap.size + 1, 1, none⟩) (.inl (.inl rfl)) _, by simpa using heap_setCell_at (k := 1) (heap_setCell_at (k := 0) e _) _, ?_⟩
        exact (Below.heap_setCell _ _ _ _ (by show w.heap.size + 1 + 1 ≠ w.heap.size + 1; omega)).trans ((Below.heap_setCell _ _ _ _ (by show w.heap.size + 1 + 1 ≠ w.heap.size + 1; omega)).trans e')
      case r4 =>
        intro w' h
        obtain ⟨hs, e, e'⟩ := h
        refine ⟨⟨_, by rw [cell_of_heap e']; rfl⟩, frozen_of_heap e', ⟨_, by rw [cell_of_heap e']; rfl⟩, frozen_of_heap e', (hs.setCell (p := ⟨w.heap.size + 1 + 1, 0, none⟩) (.inl (.inr rfl)) _).setCell (p := ⟨w.heap.size + 1 + 1, 1, none⟩) (.inl (.inr rfl)) _, ?_, by simpa using heap_setCell_at (k := 1) (heap_setCell_at (k := 0) e' _) _⟩
        exact (Below.heap_setCell _ _ _ _ (by show w.heap.size + 1 ≠ w.heap.size + 1 + 1; omega)).trans ((Below.heap_setCell _ _ _ _ (by show w.heap.size + 1 ≠ w.heap.size + 1 + 1; omega)).trans e)
      case rQ =>
        rintro w5 ⟨hs5, e8, e9⟩
        have H5 := Lib.hid (And.intro hs5 (And.intro e8 e9))
        clear hs5 e8 e9
        go_wp2_with fail
        try rw [Exit.noGoto_ret]
        obtain ⟨hs5, e8, e9⟩ := H5.out
        obtain ⟨q0, q1, q2, hz, hb⟩ := HW.out
        exact bodyPost_ret (res_cc95 (x := .int .u64 (loN (befS os S a b))) (y := .int .u64 (hiN (befS os S a b))) (x' := .int .u64 (loN (aftS os S a b))) (y' := .int .u64 (hiN (aftS os S a b))) rfl _ rfl rfl (by rw [cell_of_heap e8]; rfl) (by rw [cell_of_heap e8]; rfl) (by rw [cell_of_heap e9]; rfl) (by rw [cell_of_heap e9]; rfl)) rfl ⟨rfl, (HBW.out.1.trans (hs5.below (by have := HK.out.1.size; omega) (fun k hk e => by omega)))⟩
end Go.Proofs.Ytnfhlbmapfoifaa
