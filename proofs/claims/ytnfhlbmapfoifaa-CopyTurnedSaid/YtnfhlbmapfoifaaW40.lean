/- A sorter of all orders, made. All pairs of cards, one after the other. -/
import Derived.Test.YtnfhlbmapfoifaaW38
namespace Go.Proofs.Ytnfhlbmapfoifaa
open Go.RowKit
set_option linter.unusedVariables false

theorem RowsAt.blocks' {w w' : World} {B : Nat} {v : Value} {l : List (List Int)} (h : RowsAt w B v l) (hb : ∀ k, B ≤ k → k < w.heap.size → w'.heap[k]? = w.heap[k]?) : RowsAt w' B v l := by
  obtain ⟨vs, h1, h2⟩ := h
  exact ⟨vs, own_blocks h1 (fun g hg => hb g (h1.lt g hg).1 (h1.lt g hg).2), h2.blocks (fun vc hvc g hg => hb g (rows_lt h2 hvc hg).1 (rows_lt h2 hvc hg).2)⟩
theorem res_tc95 {fn : Func} {q p : Tmp} (h : fn.results = #[.tmp q, .cell p 95]) (tmps : Array Value) {w : World} {a : Nat} {x y : Value} (hp : tmps.getD p undef = .pointer (some ⟨a, 0, none⟩)) (hx : w.cell? ⟨a, 0, none⟩ = some x) (hy : w.cell? ⟨a, 1, none⟩ = some y) :
    (results fn tmps).run Try.prog w = .ok (.tuple #[tmps.getD q undef, .agg #[x, y]]) w := by
  have hp' : tmps[p]?.getD undef = .pointer (some ⟨a, 0, none⟩) := by simpa using hp
  simp [results, h, hp', hx, hy, go_sem]
theorem left_parts (S : Nat) : ∃ lo hi : Int, loN S = lo ∧ hiN S = hi := ⟨_, _, rfl, rfl⟩
/-- What a new sorter is. -/
def NewSrt (p : Prs) (B : Nat) (e : Ending) (w' : World) : Prop :=
  (ordersE p = 0 ∧ ∃ sb mb v, e = .returned (.tuple #[.pointer (some ⟨sb, 0, none⟩), leftV (allS (ordersL p).length)]) ∧ Srt w' sb mb p.cards.length v (ordersL p) ∧ w'.heap[mb]? = some (.map #[] 0) ∧ B ≤ sb ∧ B ≤ mb ∧ RowsAt w' B v (ordersL p)) ∨
  (ordersE p ≠ 0 ∧ e = .panicked [{ v := .iface 115 (.agg #[.int .i64 (ordersE p)]), recovered := false }])
theorem ordersE_valid {p : Prs} (h : ordersE p = 0) : p.valid = true := by
  unfold ordersE at h
  cases hv : p.valid
  · rw [hv] at h; simp at h
  · rfl
set_option maxRecDepth 100000 in
set_option maxHeartbeats 4000000 in
theorem sorter66 {p : Prs} {a : Option Addr} {cap : Nat} {w : World} (ha : IsPrts w a p.cards) (hn : p.cards.length ≤ 16) :
    Calls Try.prog 66 #[p.v a cap] w fun e w' => NewSrt p w.heap.size e w' ∧ Below w.heap.size w w' := by
  have HA := Lib.hid ha
  clear ha
  go_enter Try.func66, Try.ntmps66
  go_wp2_with fail
  obtain ⟨q0, q1, hz, hb⟩ := heap2 w (.cells (p.cells a cap) 26) (.cells #[.int .u64 0, .int .u64 0] 95)
  revert q0 q1 hz hb
  generalize ((w.alloc (.cells (p.cells a cap) 26)).alloc (.cells #[.int .u64 0, .int .u64 0] 95)) = W1
  intro q0 q1 hz hb
  have ha1 := HA.out.mono hb
  have kp := prs_cells q0
  have kp' : ∀ w', Below W1.heap.size W1 w' → w'.cell? ⟨w.heap.size, 0, none⟩ = some (.slice a p.cards.length cap) ∧ w'.cell? ⟨w.heap.size, 1, none⟩ = some (.int .i64 p.llo) ∧ w'.cell? ⟨w.heap.size, 2, none⟩ = some (.int .i64 p.lhi) ∧ w'.cell? ⟨w.heap.size, 3, none⟩ = some (.int .i64 p.olo) ∧ w'.cell? ⟨w.heap.size, 4, none⟩ = some (.int .i64 p.ohi) := fun w' hb' => by
    obtain ⟨k0, k1, k2, k3, k4⟩ := kp
    exact ⟨cell_stays hb' k0, cell_stays hb' k1, cell_stays hb' k2, cell_stays hb' k3, cell_stays hb' k4⟩
  by_cases hE : ordersE p = 0
  · have HE := Lib.hid hE
    clear hE
    refine wpIn_wide.1 (nsA (p := p) (a := a) (cap := cap) (k := (ordersL p).length) (S0 := fun f ms w' => Below W1.heap.size W1 w' ∧ (f = true → W1.heap.size ≤ ms ∧ w'.heap[ms]? = some (.map #[] 0)))
      (S1 := fun f ms ro w' => Below W1.heap.size W1 w' ∧ (f = true → W1.heap.size ≤ ms ∧ w'.heap[ms]? = some (.map #[] 0)) ∧ RowsAt w' W1.heap.size (.slice ro.1 (ordersL p).length ro.2) (ordersL p))
      (S2 := fun f ms ro sb w' => Below W1.heap.size W1 w' ∧ W1.heap.size ≤ ms ∧ W1.heap.size ≤ sb ∧ w'.heap[ms]? = some (.map #[] 0) ∧ w'.heap[sb]? = some (.cells #[.int .i64 p.cards.length, .slice ro.1 (ordersL p).length ro.2, .map (some ms)] 133 (0, 0)) ∧ RowsAt w' W1.heap.size (.slice ro.1 (ordersL p).length ro.2) (ordersL p)) ?h0 ?l1 ?l3 ?c4 ?s0 ?s1 ?c7 ?hQ)
    case h0 => exact ⟨(Below.refl _ W1).drew, fun h => by cases h⟩
    case l1 =>
      intro f ms ro w' h
      rcases h with h | h
      · exact (kp' w' h.1).1
      · exact (kp' w' h.1).1
    case l3 => exact fun f ms w' h => kp' w' h.1
    case c4 =>
      intro f ms w' h
      refine (orders63 (ha1.mono h.1) hn).mono ?_
      rintro e w3 ⟨h3, hb3⟩
      rcases h3 with ⟨_, v, rfl, hR⟩ | ⟨hne, _⟩
      · obtain ⟨vs, hr1, hr2⟩ := hR
        obtain ⟨av, cv, rfl, _⟩ := own_slice hr1
        exact ⟨(av, cv), rfl, h.1.trans (hb3.mono h.1.size), fun hf => ⟨(h.2 hf).1, (hb3.block _ (heap_lt (h.2 hf).2)).trans (h.2 hf).2⟩, RowsAt.base ⟨vs, hr1, hr2⟩ h.1.size⟩
      · exact (hne HE.out).elim
    case s0 => exact fun w' h => ⟨h.1.alloc h.1.size _, fun _ => ⟨h.1.size, World.alloc_heap_new _ _⟩⟩
    case s1 => exact fun ro w' h => ⟨h.1.alloc h.1.size _, fun _ => ⟨h.1.size, World.alloc_heap_new _ _⟩, h.2.2.below ((Below.refl _ _).alloc (Nat.le_refl _) _)⟩
    case c7 =>
      intro ms ro w' h
      have hb' : Below w'.heap.size w' (w'.alloc (.cells #[.int .i64 p.cards.length, .slice ro.1 (ordersL p).length ro.2, .map (some ms)] 133)) := (Below.refl _ _).alloc (Nat.le_refl _) _
      have hm := (h.2.1 rfl)
      exact ⟨h.1.trans (hb'.mono h.1.size), hm.1, h.1.size, (hb'.block _ (heap_lt hm.2)).trans hm.2, World.alloc_heap_new _ _, h.2.2.below hb'⟩
    case hQ =>
      rintro ms ⟨ao, co⟩ sb w3 ⟨hB3, hms, hsb, hm3, hSs, hSr⟩
      simp only at hSs hSr ⊢
      have hlen := orders_few (ordersE_valid HE.out)
      have hB3w := hB3.size
      have c0 : w3.cell? ⟨sb, 0, none⟩ = some (.int .i64 p.cards.length) := by rw [cell_of_heap hSs]; rfl
      have c1 : w3.cell? ⟨sb, 1, none⟩ = some (.slice ao (ordersL p).length co) := by rw [cell_of_heap hSs]; rfl
      have q1' := (hB3.block (w.heap.size + 1) (by omega)).trans q1
      have HS := Lib.hid (And.intro (And.intro hSs hSr) (And.intro hm3 (And.intro hms (And.intro hsb (And.intro hB3 (And.intro q1' (And.intro hz hb)))))))
      have hln : ((ordersL p).length : Int) ≤ 120 := by omega
      clear hSs hSr hm3 hms hsb hB3 hB3w q1' q0 q1 hz hb ha1 kp kp'
      go_wp2_with fail
      clear c0 c1
      go_loopw [18] (fun i wr => ∃ k : Nat, k ≤ (ordersL p).length ∧ i = .int .i64 k ∧ Hid (Same (fun k => k = w.heap.size + 1) w3 wr ∧ wr.heap[w.heap.size + 1]? = some (.cells (leftA (allS k)) 95 (0, 0)))) (fun i _ => (ordersL p).length - (intOf i).toNat)
      case atStart => exact ⟨0, by omega, rfl, Same.refl _ _, HS.out.2.2.2.2.2.1⟩
      case round =>
        obtain ⟨k, hk, rfl, HR⟩ := hrel
        obtain ⟨hs, hc⟩ := HR.out
        have c2 : wr.cell? ⟨w.heap.size + 1, 0, none⟩ = some (.int .u64 (loN (allS k))) := by rw [cell_of_heap hc]; rfl
        have c3 : wr.cell? ⟨w.heap.size + 1, 1, none⟩ = some (.int .u64 (hiN (allS k))) := by rw [cell_of_heap hc]; rfl
        clear hs hc
        by_cases hlt : k < (ordersL p).length
        · go_wp2_with fail
          refine (with_any (S := allS k) (n := k) (by omega) (allS_lt (by omega)) wr).mono ?_
          rintro e w4 ⟨rfl, hb4⟩
          rw [← allS_succ]
          obtain ⟨hs, hc⟩ := HR.out
          have hc4 := (hb4.block _ (heap_lt hc)).trans hc
          have d2 : ∃ u, w4.cell? ⟨w.heap.size + 1, 0, none⟩ = some u := ⟨_, by rw [cell_of_heap hc4]; rfl⟩
          have d3 : ∃ u, w4.cell? ⟨w.heap.size + 1, 1, none⟩ = some u := ⟨_, by rw [cell_of_heap hc4]; rfl⟩
          obtain ⟨u2, d2⟩ := d2
          obtain ⟨u3, d3⟩ := d3
          have f2 : ∀ k, w4.frozen? ⟨w.heap.size + 1, k, none⟩ = false := fun k => frozen_of_heap hc4
          have H4 := Lib.hid (And.intro (hs.trans (Same.of_below _ hb4)) hc4)
          clear hs hc hc4 hb4 c2 c3
          go_wp2_with fail
          go_roundw
          case rel => exact ⟨k + 1, by omega, by go_num, (H4.out.1.setCell (.inl rfl) _).setCell (.inl rfl) _, by simpa using heap_setCell_at (k := 1) (heap_setCell_at (k := 0) H4.out.2 (.int .u64 (loN (allS (k + 1))))) (.int .u64 (hiN (allS (k + 1))))⟩
          case measure => simp [intOf]; omega
        · obtain rfl : k = (ordersL p).length := by omega
          clear c2 c3
          go_wp2_with fail
          refine wpIn_wide.1 (ns7 (sb := sb) (bl := w.heap.size + 1) (lo := loN (allS (ordersL p).length)) (hi := hiN (allS (ordersL p).length)) (S0 := fun w' => Below wr.heap.size wr w') (S1 := fun w' => Same (fun k => k = w.heap.size + 1) wr w' ∧ w'.heap[w.heap.size + 1]? = some (.cells (leftA (allS (ordersL p).length)) 95 (0, 0))) ?d0 ?d1 ?d3 ?dQ)
          case d0 => exact (Below.refl _ _).drew
          case d1 =>
            intro w' h
            have e := (h.block _ (heap_lt HR.out.2)).trans HR.out.2
            exact ⟨by rw [cell_of_heap e]; rfl, by rw [cell_of_heap e]; rfl⟩
          case d3 =>
            intro w' h
            have e := (h.block _ (heap_lt HR.out.2)).trans HR.out.2
            exact ⟨⟨_, by rw [cell_of_heap e]; rfl⟩, frozen_of_heap e, ⟨_, by rw [cell_of_heap e]; rfl⟩, frozen_of_heap e, ((Same.of_below (fun k => k = w.heap.size + 1) h).setCell (p := ⟨w.heap.size + 1, 0, none⟩) (.inl rfl) _).setCell (p := ⟨w.heap.size + 1, 1, none⟩) (.inl rfl) _, by simpa using heap_setCell_at (k := 1) (heap_setCell_at (k := 0) e _) _⟩
          case dQ =>
            rintro w5 ⟨hs5, hc5⟩
            have H5 := Lib.hid (And.intro hs5 hc5)
            clear hs5 hc5
            go_wp2_with fail
            obtain ⟨hs5, hc5⟩ := H5.out
            obtain ⟨hS, hm3, hms, hsb, hB3, q1', hz, hb⟩ := HS.out
            have hs35 := HR.out.1.trans hs5
            have hne : ∀ k, W1.heap.size ≤ k → k ≠ w.heap.size + 1 := fun k hk => by omega
            refine bodyPost_ret (res_tc95 (x := .int .u64 (loN (allS (ordersL p).length))) (y := .int .u64 (hiN (allS (ordersL p).length))) rfl _ rfl (by rw [cell_of_heap hc5]; rfl) (by rw [cell_of_heap hc5]; rfl)) rfl ⟨.inl ⟨HE.out, sb, ms, .slice ao (ordersL p).length co, rfl, ⟨?_, ?_⟩, ?_, by omega, by omega, ?_⟩, ?_⟩
            · exact (hs35.block _ (heap_lt hS.1) (hne _ hsb)).trans hS.1
            · exact (hS.2.blocks' (fun k hk hk2 => hs35.block k hk2 (hne k hk))).base (Nat.zero_le _)
            · exact (hs35.block _ (heap_lt hm3) (hne _ hms)).trans hm3
            · exact (hS.2.blocks' (fun k hk hk2 => hs35.block k hk2 (hne k hk))).base hb.size
            · exact (hb.trans (hB3.mono hb.size)).trans (hs35.below (by have := hB3.size; omega) (fun k hk e => by omega))
  · have HE := Lib.hid hE
    clear hE
    refine wpIn_wide.1 (nsB (p := p) (a := a) (cap := cap) (k := 0) (er := ordersE p) (S0 := fun f ms w' => Below W1.heap.size W1 w') (S1 := fun f ms w' => Below W1.heap.size W1 w') ?h0 ?l1 ?l3 ?c4 ?s0 ?hQ)
    case h0 => exact (Below.refl _ W1).drew
    case l1 => exact fun f ms w' h => (kp' w' h).1
    case l3 => exact fun f ms w' h => kp' w' h
    case c4 =>
      intro f ms w' h
      refine (orders63 (ha1.mono h) hn).mono ?_
      rintro e w3 ⟨h3, hb3⟩
      rcases h3 with ⟨h0, _⟩ | ⟨hne, rfl⟩
      · exact (HE.out h0).elim
      · exact ⟨rfl, h.trans (hb3.mono h.size)⟩
    case s0 => exact fun w' h => h.alloc h.size _
    case hQ =>
      intros
      exact ⟨rfl, .inr ⟨HE.out, rfl⟩, hb.trans (Below.mono (by assumption) hb.size)⟩
end Go.Proofs.Ytnfhlbmapfoifaa

namespace Go.Proofs.Ytnfhlbmapfoifaa
open Go.RowKit
set_option linter.unusedVariables false

theorem flat_at {α β : Type} (f : α → List β) {l : List α} {a : Nat} {x : α} {i : Nat} {y : β} (hx : l[a]? = some x) (hy : (f x)[i]? = some y) : (l.flatMap f)[((l.take a).flatMap f).length + i]? = some y := by
  obtain ⟨ha, hxa⟩ := List.getElem?_eq_some_iff.1 hx
  have e : l = l.take a ++ x :: l.drop (a + 1) := by
    have h1 := (List.take_append_drop a l).symm
    rw [List.drop_eq_getElem_cons ha, hxa] at h1
    exact h1
  conv => lhs; arg 1; rw [e]
  rw [List.flatMap_append, List.flatMap_cons, List.getElem?_append_right (by omega), Nat.add_sub_cancel_left, List.getElem?_append_left (List.getElem?_eq_some_iff.1 hy).1]
  exact hy
def rowP (n a : Nat) : List (Nat × Nat) := ((List.range n).filter fun b => decide (a < b)).map fun b => (a, b)
theorem pairsL_eq (n : Nat) : pairsL n = (List.range n).flatMap (rowP n) := rfl
theorem above_eq (a : Nat) : ∀ n, (List.range n).filter (fun b => decide (a < b)) = (List.range (n - (a + 1))).map (fun k => a + 1 + k)
  | 0 => by simp
  | n + 1 => by
    rw [List.range_succ, List.filter_append, above_eq a n]
    by_cases h : a < n
    · have e : n + 1 - (a + 1) = (n - (a + 1)) + 1 := by omega
      rw [e, List.range_succ, List.map_append]
      simp [h]
      omega
    · have e : n + 1 - (a + 1) = 0 := by omega
      have e2 : n - (a + 1) = 0 := by omega
      simp [h, e, e2]
theorem rowP_len (n a : Nat) : (rowP n a).length = n - (a + 1) := by unfold rowP; rw [above_eq]; simp
theorem rowP_at {n a b : Nat} (h1 : a < b) (h2 : b < n) : (rowP n a)[b - (a + 1)]? = some (a, b) := by
  unfold rowP
  rw [above_eq]
  have : b - (a + 1) < n - (a + 1) := by omega
  simp [this]
  omega
def cntP (n a : Nat) : Nat := ((List.range a).flatMap (rowP n)).length
theorem cntP_succ (n a : Nat) : cntP n (a + 1) = cntP n a + (n - (a + 1)) := by
  unfold cntP
  rw [List.range_succ, List.flatMap_append, List.length_append]
  simp [rowP_len]
theorem cntP_all (n : Nat) : cntP n n = (pairsL n).length := rfl
theorem pairs_at {n a b : Nat} (h1 : a < b) (h2 : b < n) : (pairsL n)[cntP n a + (b - (a + 1))]? = some (a, b) := by
  have ha : a < n := by omega
  have := flat_at (rowP n) (l := List.range n) (a := a) (x := a) (by simp [ha]) (rowP_at h1 h2)
  rw [List.take_range, Nat.min_eq_left (by omega)] at this
  exact this
theorem pairs_mem {n : Nat} {x : Nat × Nat} (h : x ∈ pairsL n) : x.1 < x.2 ∧ x.2 < n := by
  rw [pairsL_eq, List.mem_flatMap] at h
  obtain ⟨a, ha, h⟩ := h
  unfold rowP at h
  rw [List.mem_map] at h
  obtain ⟨b, hb, rfl⟩ := h
  simp at hb
  exact ⟨hb.2, hb.1⟩
theorem pairs_any {w : World} {sb : Nat} : Calls Try.prog 70 #[.pointer (some ⟨sb, 0, none⟩)] w fun e w' => e = .returned (.func (.func 108) #[] #[.pointer (some ⟨w.heap.size, 0, none⟩)]) ∧ w' = w.alloc (.cells #[.pointer (some ⟨sb, 0, none⟩)] 92) := by
  have hmf : ∀ (fn : Fn) (first cap : Array Value) (w : World), (Instr.makeFunc fn first cap).run Try.prog w = .ok (.func fn first cap) w := fun _ _ _ _ => rfl
  go_enter Try.func70, Try.ntmps70
  go_wp2
  go_ret
  exact ⟨rfl, rfl⟩
/-- What is handed over: the i-th pair. -/
def PairOk (n : Nat) (i : Nat) (v : Array Value) (A : World) (K : Nat → Prop) : Prop :=
  ∃ a b : Nat, (pairsL n)[i]? = some (a, b) ∧ v = #[.int .i64 (a : Int), .int .i64 (b : Int)] ∧ K = fun _ => False
set_option maxRecDepth 100000 in
set_option maxHeartbeats 2000000 in
theorem pairs_iter {n sb pb : Nat} {W : World} {M : Nat → Prop} (hn : n ≤ 16)
    (hs : ∀ A, Same M W A → A.cell? ⟨pb, 0, none⟩ = some (.pointer (some ⟨sb, 0, none⟩)) ∧ A.cell? ⟨sb, 0, none⟩ = some (.int .i64 (n : Int))) :
    IterC Try.prog 108 #[.pointer (some ⟨pb, 0, none⟩)] (pairsL n).length (PairOk n) M W := by
  intro l J Jx hJ hJx hY h0
  obtain ⟨c0, c1⟩ := hs W (Same.refl _ W)
  have HS := Lib.hid hs
  have HY := Lib.hid hY
  have H0 := Lib.hid h0
  clear hs hY h0 hJ hJx
  refine callsIn_wide.2 ?_
  go_enter Try.func108, Try.ntmps108
  go_wp2_with fail
  clear c0 c1
  go_loopw [9] (fun i wr => ∃ (a : Nat) (C : Nat → Prop), a ≤ n ∧ i = .int .i64 a ∧ Hid (Same M W wr ∧ J (cntP n a) wr C)) (fun i _ => n - (intOf i).toNat)
  case atStart => exact ⟨0, _, by omega, rfl, Same.refl _ W, H0.out⟩
  case round =>
    obtain ⟨a, C, ha, rfl, HR⟩ := hrel
    by_cases hlt : a < n
    · obtain ⟨c0, c1⟩ := HS.out wr HR.out.1
      obtain ⟨wo, hwo⟩ : ∃ wo : World, wo = wr := ⟨_, rfl⟩
      subst hwo
      go_wp2_with fail
      clear c0 c1
      go_loopw [4] (fun i wr => ∃ (b : Nat) (C : Nat → Prop), a < b ∧ b ≤ n ∧ i = .int .i64 b ∧ Hid (Same M W wr ∧ J (cntP n a + (b - (a + 1))) wr C)) (fun i _ => n - (intOf i).toNat)
      case atStart => exact ⟨a + 1, C, by omega, by omega, by go_num, HR.out.1, by have := HR.out.2; simpa using this⟩
      case round =>
        obtain ⟨b, C2, hab, hb, rfl, HR2⟩ := hrel
        obtain ⟨c0, c1⟩ := HS.out wr HR2.out.1
        by_cases hlt2 : b < n
        · have hidx := pairs_at hab hlt2
          obtain ⟨fn, tmps, assign, body, hy, hRd⟩ := HY.out (cntP n a + (b - (a + 1))) #[.int .i64 (a : Int), .int .i64 (b : Int)] wr C2 (fun _ => False) (List.getElem?_eq_some_iff.1 hidx).1 ⟨a, b, hidx, rfl, rfl⟩ (fun _ h => h.elim) HR2.out.2
          have HRd := Lib.hid hRd
          clear hidx hRd
          refine (wpIn_wide (n := 0)).1 ?_
          gi_wp2_with fail
          refine ⟨rfl, HRd.out.mono ?_⟩
          rintro e W3 ⟨hs3, C3, h1, h2, h3, h4⟩
          have hS3 : Same M W W3 := same_later HR2.out.1 hs3 (fun k hm => by
            by_cases hk : k < W.heap.size
            · exact .inl (hm.2 hk)
            · exact .inr (by omega))
          rcases h4 with ⟨rfl, hj⟩ | ⟨rfl, hj⟩
          · have H3 := Lib.hid (And.intro hS3 hj)
            clear hS3 hj hs3 h1 h2 h3 c0 c1 hy
            gi_wp2_with fail
            go_roundw
            case rel => exact ⟨b + 1, C3, by omega, by omega, by go_num, H3.out.1, by have := H3.out.2; rw [show b + 1 - (a + 1) = b - (a + 1) + 1 by omega, ← Nat.add_assoc]; exact this⟩
            case measure => simp [intOf]; omega
          · have H3 := Lib.hid hj
            have hidx := pairs_at hab hlt2
            have hi := (List.getElem?_eq_some_iff.1 hidx).1
            clear hS3 hj hs3 h1 h2 h3 c0 c1 hy hidx
            gi_wp2_with fail
            refine bodyPost_ret (results_none rfl _ _ _) rfl ?_
            exact ⟨⟨_, rfl⟩, C3, .inr ⟨_, hi, H3.out⟩⟩
        · obtain rfl : b = n := by omega
          go_wp2_with fail
          go_roundw
          case rel => exact ⟨a + 1, C2, by omega, by go_num, HR2.out.1, by rw [cntP_succ]; exact HR2.out.2⟩
          case measure => simp [intOf]; omega
    · obtain rfl : a = n := by omega
      go_wp2_with fail
      refine bodyPost_end (results_none rfl _ _ _) rfl ?_
      exact ⟨⟨_, rfl⟩, C, .inl (by have := HR.out.2; rw [cntP_all] at this; exact this)⟩
end Go.Proofs.Ytnfhlbmapfoifaa

