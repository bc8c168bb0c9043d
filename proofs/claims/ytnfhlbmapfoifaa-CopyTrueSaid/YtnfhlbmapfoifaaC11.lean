/- How many comparisons are needed: whatever orders. Needs; Compare's drawn regions. -/
import Derived.Test.YtnfhlbmapfoifaaC10
namespace Go.Proofs.Ytnfhlbmapfoifaa
open Go.RowKit
set_option linter.unusedVariables false
theorem KnownI.look' {os : List (List Int)} {n : Nat} {w : World} {mb S : Nat} (h : KnownI os n w mb) (hS : S < 2 ^ 128) :
    ∃ (r : Int) (ok : Bool), (∀ w', w'.heap[mb]? = w.heap[mb]? → (Instr.lookup 131 (.map (some mb)) (leftV S) true).run Try.prog w' = .ok (.tuple #[.int .i64 r, .bool ok]) w') ∧ (ok = true → r = (needV os n S : Nat)) := by
  obtain ⟨M, h1, h2⟩ := h
  have hz : ∀ w : World, (zeroValue 3).run Try.prog w = .ok (.int .i64 0) w := fun w => by
    obtain ⟨i0, hi0, hz0, _⟩ := info_parts infoI
    simp [zeroValue, typeInfo, hi0, hz0, Result.andThen]
  by_cases hm : S ∈ M
  · refine ⟨(needV os n S : Nat), true, fun w' hw => ?_, fun _ => rfl⟩
    obtain ⟨v, ok, hr, hc⟩ := (h1.kept hw).look keyed95 Try.underlying131 (left_key hS) (hz w') true
    rcases hc with ⟨rfl, rfl, hn⟩ | ⟨rfl, hmm⟩
    · exact (hn (leftV S, .int .i64 (needV os n S : Nat)) (List.mem_map.2 ⟨S, hm, rfl⟩) rfl).elim
    · obtain ⟨X, hX, e⟩ := List.mem_map.1 hmm
      simp only [Prod.mk.injEq] at e
      obtain rfl := left_inj e.1
      obtain rfl := e.2
      simpa using hr
  · refine ⟨0, false, fun w' hw => ?_, fun h => by cases h⟩
    obtain ⟨v, ok, hr, hc⟩ := (h1.kept hw).look keyed95 Try.underlying131 (left_key hS) (hz w') true
    rcases hc with ⟨rfl, rfl, hn⟩ | ⟨rfl, hmm⟩
    · simpa using hr
    · obtain ⟨X, hX, e⟩ := List.mem_map.1 hmm
      simp only [Prod.mk.injEq] at e
      obtain rfl := left_inj e.1
      exact (hm hX).elim
theorem square_wrap {n : Nat} (h : n ≤ 5) : IntKind.i64.wrap ((n : Int) * n) = ((n * n : Nat) : Int) := by
  have : n = 0 ∨ n = 1 ∨ n = 2 ∨ n = 3 ∨ n = 4 ∨ n = 5 := by omega
  rcases this with rfl | rfl | rfl | rfl | rfl | rfl <;> decide
theorem square_le {n : Nat} (h : n ≤ 5) : n * n ≤ 25 := by
  have := Nat.mul_le_mul h h
  omega
theorem ned_end {w w3 V2 V : World} {sb mb n : Nat} {os : List (List Int)} {b2 b3 b7 S best' : Nat} {C K : Nat → Prop} (hB : Same (fun k => k = mb ∨ k = b7) V2 V) (hC : ∀ k, k < w3.heap.size + 2 → C k) (hm : mb < w3.heap.size) (h7 : b7 < w3.heap.size) (hlt : w3.heap.size + 1 < V2.heap.size)
    (h' : NedI w sb mb n os b2 b3 b7 S best' V) :
    Same (mayC (fun q => q = mb ∨ q = b7 ∨ q = w3.heap.size + 1) (w3.heap.size + 2) C) V2 V ∧ V.heap[w3.heap.size + 1]? = V2.heap[w3.heap.size + 1]? ∧
      ∃ C' : Nat → Prop, (∀ k, k < w3.heap.size + 2 → C' k) ∧ (∀ k, C' k → k < V.heap.size) ∧ (∀ k, C' k → C k ∨ K k ∨ V2.heap.size ≤ k) ∧ (NedI w sb mb n os b2 b3 b7 S best' V ∧ ∀ k, k < w3.heap.size + 2 → C' k) := by
  refine ⟨hB.mono (fun k _ e => ?_), hB.block _ hlt (by omega), fun k => C k ∧ k < V2.heap.size, fun k hk => ⟨hC k hk, by omega⟩, fun k hk => by have := hB.size; omega, fun k hk => .inl hk.1, h', fun k hk => ⟨hC k hk, by omega⟩⟩
  exact ⟨hC k (by rcases e with rfl | rfl <;> omega), fun _ => by rcases e with e | e <;> simp [e]⟩
attribute [local go_sem] Oper.semAt_some
set_option maxRecDepth 100000 in
set_option maxHeartbeats 8000000 in
theorem needs_many {n sb mb : Nat} {v : Value} {os : List (List Int)} (hn : n ≤ 5) (hos : os.length ≤ 128) (hl : ∀ o ∈ os, o.length ≤ 16) {S : Nat} {w : World} (hm : ¬ manyS S ≤ 1) (hS : S < 2 ^ 128) (hs : Srt w sb mb n v os) (hk : KnownI os n w mb)
    (IH : ∀ (T : Nat) (w : World), manyS T < manyS S → T < 2 ^ 128 → Srt w sb mb n v os → KnownI os n w mb → Calls Try.prog 72 #[.pointer (some ⟨sb, 0, none⟩), leftV T] w fun e w' => e = .returned (.int .i64 (needV os n T : Nat)) ∧ Same (fun k => k = mb) w w' ∧ KnownI os n w' mb) :
    Calls Try.prog 72 #[.pointer (some ⟨sb, 0, none⟩), leftV S] w fun e w' => e = .returned (.int .i64 (needV os n S : Nat)) ∧ Same (fun k => k = mb) w w' ∧ KnownI os n w' mb := by
  have HS := Lib.hid hS
  have HK := Lib.hid hk
  have HSR := Lib.hid hs
  have HIH := Lib.hid IH
  have HL := Lib.hid hl
  have HM := Lib.hid hm
  have hm' : ¬ (manyS S : Int) ≤ 1 := by omega
  clear hS hk hs IH hl hm
  refine calls_of_wp_marks Try.func72 rfl ?_
  simp only [Try.ntmps72, List.size_toArray, List.length_cons, List.length_nil, Nat.reduceAdd, Nat.reduceSub, Array.replicate_succ, Array.replicate_zero, List.push_toArray, List.append_toArray, List.nil_append, List.cons_append]
  go_wp2_with fail
  obtain ⟨q0, q1, hz, hb⟩ := heap2 w (.cells #[.pointer (some ⟨sb, 0, none⟩)] 92) (.cells (leftA S) 95)
  revert q0 q1 hz hb
  generalize ((w.alloc (.cells #[.pointer (some ⟨sb, 0, none⟩)] 92)).alloc (.cells (leftA S) 95)) = W1
  intro q0 q1 hz hb
  refine (many_any HS.out W1).mono ?_
  rintro e w2 ⟨rfl, hb2⟩
  have hB2 := hb.trans (hb2.mono hb.size)
  have r0 := (hb2.block _ (heap_lt q0)).trans q0
  have r1 := (hb2.block _ (heap_lt q1)).trans q1
  have hS2 : Srt w2 sb mb n v os := HSR.out.below hB2
  have hK2 : KnownI os n w2 mb := HK.out.kept (hB2.block _ HK.out.lt)
  obtain ⟨r, ok, hlk, hrok⟩ := hK2.look' HS.out
  have HLK := Lib.hid (And.intro hlk hrok)
  have HB := Lib.hid (And.intro hB2 (And.intro r0 (And.intro r1 (And.intro hS2 hK2))))
  clear q0 q1 hz hb hb2 hB2 r0 r1 hS2 hK2 hlk hrok
  go_wp2_with fail
  refine wpIn_wide.1 (ne3 (b2 := w.heap.size) (b3 := w.heap.size + 1) (sb := sb) (mb := mb) (sl := loN S) (sh := hiN S) (r := r) (ok := ok) (S0 := fun w' => Below w2.heap.size w2 w' ∧ w'.heap = w2.heap) ?a0 ?a1 ?a2 ?a3 ?a4 ?aQ)
  case a0 => exact ⟨(Below.refl _ _).drew, rfl⟩
  case a1 => exact fun w' h => by rw [cell_of_heap ((h.1.block _ (heap_lt HB.out.2.1)).trans HB.out.2.1)]; rfl
  case a2 => exact fun w' h => by rw [cell_of_heap ((h.1.block _ (heap_lt HB.out.2.2.2.1.s)).trans HB.out.2.2.2.1.s)]; rfl
  case a3 => exact fun w' h => ⟨by rw [cell_of_heap ((h.1.block _ (heap_lt HB.out.2.2.1)).trans HB.out.2.2.1)]; rfl, by rw [cell_of_heap ((h.1.block _ (heap_lt HB.out.2.2.1)).trans HB.out.2.2.1)]; rfl⟩
  case a4 =>
    intro w' h
    exact HLK.out.1 w' (by rw [h.2])
  case aQ =>
    intro w3 h3
    have HB3 := Lib.hid h3.1
    clear h3
    cases ok with
    | true =>
      go_wp2_with fail
      refine ⟨_, results_tmp rfl _ _ _, ?_, Same.of_below _ (HB.out.1.trans (HB3.out.mono HB.out.1.size)), HB.out.2.2.2.2.kept (HB3.out.block _ HB.out.2.2.2.2.lt)⟩
      rw [HLK.out.2 (by first | trivial | rfl)]
      rfl
    | false =>
      go_wp2_with fail
      refine wpIn_wide.1 (ne6 (b2 := w.heap.size) (sb := sb) (n := n) (z := n * n) (S0 := fun w' => Below w3.heap.size w3 w') (S1 := fun b7 w' => Below w3.heap.size w3 w' ∧ w3.heap.size ≤ b7 ∧ w'.heap[b7]? = some (.cells #[.int .i64 0] 3 (0, 0)))
        (S2 := fun b7 w' => Below w3.heap.size w3 w' ∧ w3.heap.size ≤ b7 ∧ w'.heap[b7]? = some (.cells #[.int .i64 ((n * n : Nat) : Int)] 3 (0, 0))) (square_wrap hn) ?b0 ?b1 ?b2 ?b3 ?b4 ?b9 ?b10 ?bQ)
      case b0 => exact (Below.refl _ _).drew
      case b1 =>
        intro b7 w' h
        have hb : Below w3.heap.size w3 w' := by rcases h with h | h; exact h; exact h.1
        have e := (hb.block _ (heap_lt ((HB3.out.block _ (heap_lt HB.out.2.1)).trans HB.out.2.1))).trans ((HB3.out.block _ (heap_lt HB.out.2.1)).trans HB.out.2.1)
        rw [cell_of_heap e]; rfl
      case b2 =>
        intro b7 w' h
        have hb : Below w3.heap.size w3 w' := by rcases h with h | h; exact h; exact h.1
        have e0 := (HB3.out.block _ (heap_lt HB.out.2.2.2.1.s)).trans HB.out.2.2.2.1.s
        have e := (hb.block _ (heap_lt e0)).trans e0
        rw [cell_of_heap e]; rfl
      case b3 =>
        intro b7 w' h
        have hb : Below w3.heap.size w3 w' := by rcases h with h | h; exact h; exact h.1
        have e := (hb.block _ (heap_lt ((HB3.out.block _ (heap_lt HB.out.2.1)).trans HB.out.2.1))).trans ((HB3.out.block _ (heap_lt HB.out.2.1)).trans HB.out.2.1)
        rw [cell_of_heap e]; rfl
      case b4 =>
        intro b7 w' h
        have hb : Below w3.heap.size w3 w' := by rcases h with h | h; exact h; exact h.1
        have e0 := (HB3.out.block _ (heap_lt HB.out.2.2.2.1.s)).trans HB.out.2.2.2.1.s
        have e := (hb.block _ (heap_lt e0)).trans e0
        rw [cell_of_heap e]; rfl
      case b9 => exact fun w' h => ⟨h.alloc h.size _, h.size, World.alloc_heap_new _ _⟩
      case b10 =>
        intro b7 w' h
        exact ⟨⟨_, by rw [cell_of_heap h.2.2]; rfl⟩, frozen_of_heap h.2.2, h.1.setCell h.2.1 _, h.2.1, heap_setCell_at (k := 0) h.2.2 _⟩
      case bQ =>
        intro b7 w4 h4
        obtain ⟨hB2, r0, r1, hS2, hK2⟩ := HB.out
        have hb34 : Below w2.heap.size w2 w4 := HB3.out.trans (h4.1.mono HB3.out.size)
        have hBw : Below w.heap.size w w4 := hB2.trans (hb34.mono hB2.size)
        have hI : NedI w sb mb n os w.heap.size (w.heap.size + 1) b7 S (n * n) w4 := ⟨Same.of_below _ hBw, (hb34.block _ (heap_lt r0)).trans r0, (hb34.block _ (heap_lt r1)).trans r1, h4.2.2, hK2.kept (hb34.block _ hK2.lt)⟩
        have hS4 : Srt w4 sb mb n v os := HSR.out.below hBw
        have h7 : w2.heap.size ≤ b7 := Nat.le_trans HB3.out.size h4.2.1
        have hw2 : w.heap.size + 2 ≤ w2.heap.size := by have := heap_lt r1; omega
        have H4 := Lib.hid (And.intro hI (And.intro hS4 (And.intro h7 (And.intro hw2 h4.1))))
        have c2 : w4.cell? ⟨w.heap.size, 0, none⟩ = some (.pointer (some ⟨sb, 0, none⟩)) := by rw [cell_of_heap hI.c2]; rfl
        clear hB2 r0 r1 hS2 hK2 hb34 hBw hI hS4 h7 hw2 h4
        go_wp2_with fail
        refine pairs_any.mono ?_
        rintro e w5 ⟨rfl, hw5⟩
        have hb45 : Below w4.heap.size w4 w5 := by rw [hw5]; exact (Below.refl _ _).alloc (Nat.le_refl _) _
        have hz5 : w5.heap.size = w4.heap.size + 1 := by rw [hw5]; simp
        have q5 : w5.heap[w4.heap.size]? = some (.cells #[.pointer (some ⟨sb, 0, none⟩)] 92 (0, 0)) := by rw [hw5]; exact World.alloc_heap_new _ _
        have hmw : mb < w.heap.size := HK.out.lt
        have h7l := heap_lt H4.out.1.c7
        have H5 : Hid (NedI w sb mb n os w.heap.size (w.heap.size + 1) b7 S (n * n) w5 ∧ Srt w5 sb mb n v os ∧ w5.heap[w4.heap.size]? = some (.cells #[.pointer (some ⟨sb, 0, none⟩)] 92 (0, 0))) := ⟨H4.out.1.below hb45, H4.out.2.1.below hb45, q5⟩
        have HZ : Hid (mb < w.heap.size ∧ w.heap.size + 2 ≤ b7 ∧ b7 < w4.heap.size ∧ w5.heap.size = w4.heap.size + 1) := ⟨hmw, by have := H4.out.2.2.1; have := H4.out.2.2.2.1; omega, h7l, hz5⟩
        clear hw5 hb45 hz5 q5 hmw h7l c2
        go_wp2_with fail
        obtain ⟨hmw, h7a, h7b, hz5⟩ := HZ.out
        refine wp_rangeFuncC (gf := 108) (lb := #[.pointer (some ⟨w4.heap.size, 0, none⟩)]) rfl (fun args w => by simp [callFunc, Try.func108, Try.f108, go_sem]) (pairsL n).length (PairOk n) (fun q => q = mb ∨ q = b7 ∨ q = w5.heap.size + 1) ?hps (by omega) (by omega) ?hit
          (fun i A C => NedI w sb mb n os w.heap.size (w.heap.size + 1) b7 S (bestN os n S i) A ∧ ∀ k, k < w5.heap.size + 2 → C k) (fun _ _ _ _ => False) ?hI ?hIx ?hh0 ?hround ?hdone ?hstop
        case hps =>
          rintro i v A K ⟨a, b, _, rfl, _⟩
          rfl
        case hit =>
          intro W hb hsz
          refine pairs_iter (n := n) (sb := sb) (by omega) (fun A hA => ?_)
          obtain ⟨hI5, hS5, q5⟩ := H5.out
          have hsb := heap_lt hS5.s
          have hne : sb ≠ mb := by
            rintro rfl
            obtain ⟨es, c, e⟩ := hI5.kn.map
            have := hS5.s
            rw [e] at this
            cases this
          have hne7 : sb ≠ b7 := by
            rintro rfl
            have h1 := hI5.c7
            rw [hS5.s] at h1
            simp at h1
          have e4 := (hA.block (w4.heap.size) (by omega) (by rintro (e | e | e) <;> omega)).trans ((hb.block _ (by omega)).trans q5)
          have es := (hA.block sb (by omega) (by rintro (e | e | e) <;> omega)).trans ((hb.block _ hsb).trans hS5.s)
          exact ⟨by rw [cell_of_heap e4]; rfl, by rw [cell_of_heap es]; rfl⟩
        case hI =>
          intro i A B C h hs
          exact ⟨h.1.stable (N := w5.heap.size + 1) hs (by omega) (by omega) (by omega) (by omega) (by omega) (by omega) (fun k hk => h.2 k (by omega)), h.2⟩
        case hIx =>
          intro c i A B C h _
          exact h
        case hh0 =>
          intro W hb hsz
          exact ⟨H5.out.1.below hb, fun k hk => hk⟩
        case hround =>
          rintro i v W C K hiN ⟨a, b, hab, rfl, rfl⟩ hKC hC ⟨hI, hC0⟩ hlt
          have HH := Lib.hid (And.intro hC (And.intro hI (And.intro hlt hab)))
          clear hKC hC hI hlt hiN hC0 hab hmw h7a h7b hz5
          gi_wp2_with fail
          refine ⟨trivial, fun V2 hS2 hsz2 => ?_⟩
          obtain ⟨hC, hI, hlt, hab⟩ := HH.out
          obtain ⟨hmw, h7a, h7b, hz5⟩ := HZ.out
          have hI2 := hI.stable (C := C) (N := w5.heap.size + 1) (lb := w5.heap.size + 1) (hS2.mono (fun _ _ e => .inr e)) (by omega) (by omega) (by omega) (by omega) (by omega) (by omega) (fun k hk => hC k (by omega))
          have hSV : Srt V2 sb mb n v os := HSR.out.kept HK.out.map hI2.sw
          have e0 : V2.cell? ⟨w.heap.size, 0, none⟩ = some (.pointer (some ⟨sb, 0, none⟩)) := by rw [cell_of_heap hI2.c2]; rfl
          have e1 : V2.cell? ⟨w.heap.size + 1, 0, none⟩ = some (.int .u64 (loN S)) := by rw [cell_of_heap hI2.c3]; rfl
          have e2 : V2.cell? ⟨w.heap.size + 1, 1, none⟩ = some (.int .u64 (hiN S)) := by rw [cell_of_heap hI2.c3]; rfl
          have HI2 := Lib.hid (And.intro hC (And.intro hI2 (And.intro hSV (And.intro (show w5.heap.size + 1 < V2.heap.size by omega) hab))))
          clear hC hI hlt hab hmw h7a h7b hz5 hI2 hSV hS2 hsz2 HH
          gi_wp2_with fail
          refine ⟨trivial, rfl, wideAt_calls ((compared_any (S := S) (a := a) (b := b) HI2.out.2.2.1 hos HL.out HS.out).mono ?_)⟩
          rintro e w6 ⟨rfl, hb6⟩
          have HLX : Hid (befS os S a b < 2 ^ 128 ∧ aftS os S a b < 2 ^ 128) := ⟨bef_lt hos _ _ _, aft_lt hos _ _ _⟩
          have HST : Hid (bestN os n S (i + 1) = stepN os n S (bestN os n S i) (a, b)) := bestN_succ HI2.out.2.2.2.2
          have HSX : Hid ((befS os S a b ≠ S → manyS (befS os S a b) < manyS S) ∧ (aftS os S a b ≠ S → manyS (aftS os S a b) < manyS S)) := ⟨fun h => many_lt HS.out (bef_sub os S a b) h, fun h => many_lt HS.out (aft_sub os S a b) h⟩
          have HSN : Hid (stepN os n S (bestN os n S i) (a, b) = if befS os S a b ≠ S ∧ aftS os S a b ≠ S then mnN (bestN os n S i) (1 + mxN (needV os n (befS os S a b)) (needV os n (aftS os S a b))) else bestN os n S i) := rfl
          obtain ⟨X, hX⟩ : ∃ X, befS os S a b = X := ⟨_, rfl⟩
          obtain ⟨Y, hY⟩ : ∃ Y, aftS os S a b = Y := ⟨_, rfl⟩
          rw [hX, hY] at HLX HSX HSN ⊢
          clear hX hY
          have r3 := (hb6.block _ (heap_lt HI2.out.2.1.c3)).trans HI2.out.2.1.c3
          have g1 : w6.cell? ⟨w.heap.size + 1, 0, none⟩ = some (.int .u64 (loN S)) := by rw [cell_of_heap r3]; rfl
          have g2 : w6.cell? ⟨w.heap.size + 1, 1, none⟩ = some (.int .u64 (hiN S)) := by rw [cell_of_heap r3]; rfl
          have hl3 : w.heap.size + 1 < w6.heap.size := heap_lt r3
          have hl4 : w.heap.size < w6.heap.size := by omega
          have HB6 := Lib.hid hb6
          clear e0 e1 e2 hb6 r3
          by_cases hxS : X = S
          · have hnx : ∀ w, (binOp .neq 95 (.agg #[.int .u64 (loN X), .int .u64 (hiN X)]) (.agg #[.int .u64 (loN S), .int .u64 (hiN S)])).run Try.prog w = .ok (.bool false) w := fun w => by rw [hxS]; exact run_eq95 S w
            have HXS := Lib.hid hxS
            clear hxS
            gi_wp2_with fail
            obtain ⟨hC, hI2, hSV, hlt, hab⟩ := HI2.out
            obtain ⟨hmw, h7a, h7b, hz5⟩ := HZ.out
            have hb7 : Below V2.heap.size V2 ((w6.alloc (.cells (leftA X) 95)).alloc (.cells (leftA Y) 95)) := (HB6.out.alloc HB6.out.size _).alloc (by simp; have := HB6.out.size; omega) _
            refine ned_end (best' := bestN os n S (i + 1)) (Same.of_below _ hb7) hC (by omega) (by omega) hlt ?_
            rw [HST.out, HSN.out, if_neg (fun h => h.1 HXS.out)]
            exact hI2.below hb7
          · have hnx : ∀ w, (binOp .neq 95 (.agg #[.int .u64 (loN X), .int .u64 (hiN X)]) (.agg #[.int .u64 (loN S), .int .u64 (hiN S)])).run Try.prog w = .ok (.bool true) w := fun w => run_neq95 hxS w
            have HXS := Lib.hid hxS
            clear hxS
            by_cases hyS : Y = S
            · have hny : ∀ w, (binOp .neq 95 (.agg #[.int .u64 (loN Y), .int .u64 (hiN Y)]) (.agg #[.int .u64 (loN S), .int .u64 (hiN S)])).run Try.prog w = .ok (.bool false) w := fun w => by rw [hyS]; exact run_eq95 S w
              have HYS := Lib.hid hyS
              clear hyS
              gi_wp2_with fail
              obtain ⟨hC, hI2, hSV, hlt, hab⟩ := HI2.out
              obtain ⟨hmw, h7a, h7b, hz5⟩ := HZ.out
              have hb7 : Below V2.heap.size V2 ((w6.alloc (.cells (leftA X) 95)).alloc (.cells (leftA Y) 95)) := (HB6.out.alloc HB6.out.size _).alloc (by simp; have := HB6.out.size; omega) _
              refine ned_end (best' := bestN os n S (i + 1)) (Same.of_below _ hb7) hC (by omega) (by omega) hlt ?_
              rw [HST.out, HSN.out, if_neg (fun h => h.2 HYS.out)]
              exact hI2.below hb7
            · have hny : ∀ w, (binOp .neq 95 (.agg #[.int .u64 (loN Y), .int .u64 (hiN Y)]) (.agg #[.int .u64 (loN S), .int .u64 (hiN S)])).run Try.prog w = .ok (.bool true) w := fun w => run_neq95 hyS w
              have HYS := Lib.hid hyS
              clear hyS
              gi_wp2_with fail
              obtain ⟨hC, hI2, hSV, hlt, hab⟩ := HI2.out
              obtain ⟨hmw, h7a, h7b, hz5⟩ := HZ.out
              have hb7 : Below V2.heap.size V2 ((w6.alloc (.cells (leftA X) 95)).alloc (.cells (leftA Y) 95)) := (HB6.out.alloc HB6.out.size _).alloc (by simp; have := HB6.out.size; omega) _
              obtain ⟨q10, q11, hz7, _⟩ := heap2 w6 (.cells (leftA X) 95) (.cells (leftA Y) 95)
              have hV26 := HB6.out.size
              revert hb7 q10 q11 hz7
              generalize ((w6.alloc (.cells (leftA X) 95)).alloc (.cells (leftA Y) 95)) = w7
              intro hb7 q10 q11 hz7
              have hI7 := hI2.below hb7
              have kb2 : ∀ w', Same (fun k => k = mb) w7 w' → w'.cell? ⟨w.heap.size, 0, none⟩ = some (.pointer (some ⟨sb, 0, none⟩)) := fun w' h => by rw [cell_of_heap ((h.block _ (heap_lt hI7.c2) (by omega)).trans hI7.c2)]; rfl
              have kb7 : ∀ w', Same (fun k => k = mb) w7 w' → w'.heap[b7]? = some (.cells #[.int .i64 ((bestN os n S i : Nat) : Int)] 3 (0, 0)) := fun w' h => (h.block _ (heap_lt hI7.c7) (by omega)).trans hI7.c7
              have kb11 : ∀ w', Same (fun k => k = mb) w7 w' → w'.cell? ⟨w6.heap.size + 1, 0, none⟩ = some (.int .u64 (loN Y)) ∧ w'.cell? ⟨w6.heap.size + 1, 1, none⟩ = some (.int .u64 (hiN Y)) := fun w' h => by
                have e := (h.block _ (heap_lt q11) (by omega)).trans q11
                exact ⟨by rw [cell_of_heap e]; rfl, by rw [cell_of_heap e]; rfl⟩
              have kS : ∀ w', Same (fun k => k = mb) w7 w' → Srt w' sb mb n v os := fun w' h => HSR.out.kept HK.out.map (hI7.sw.trans h)
              refine ne12 (b2 := w.heap.size) (sb := sb) (b7 := b7) (b10 := w6.heap.size) (b11 := w6.heap.size + 1) (xl := loN X) (xh := hiN X) (yl := loN Y) (yh := hiN Y) (z := bestN os n S i)
                (S0 := fun w' => Below w7.heap.size w7 w') (S1 := fun nx w' => nx.val = needV os n X ∧ Same (fun k => k = mb) w7 w' ∧ KnownI os n w' mb) (S2 := fun nx ny w' => nx.val = needV os n X ∧ ny.val = needV os n Y ∧ Same (fun k => k = mb) w7 w' ∧ KnownI os n w' mb)
                (S3 := fun nx ny w' => ∃ V, (nx.val = needV os n X ∧ ny.val = needV os n Y ∧ Same (fun k => k = mb) w7 V ∧ KnownI os n V mb) ∧ w' = V.setCell ⟨b7, 0, none⟩ (.int .i64 (mnN (bestN os n S i) (1 + mxN nx.val ny.val) : Nat))) ?e0 ?e1 ?e2 ?e3 ?e4 ?e5 ?e6 ?e7 ?e8 ?eQ
              case e0 => exact (Below.refl _ _).drew
              case e1 =>
                intro nx ny w' h
                have hs : Same (fun k => k = mb) w7 w' := by
                  rcases h with h | h | h
                  · exact Same.of_below _ h
                  · exact h.2.1
                  · exact h.2.2.1
                rw [cell_of_heap (kb7 w' hs)]; rfl
              case e2 => exact fun w' h => kb2 w' (Same.of_below _ h)
              case e3 =>
                intro w' h
                have e := (h.block _ (heap_lt q10)).trans q10
                exact ⟨by rw [cell_of_heap e]; rfl, by rw [cell_of_heap e]; rfl⟩
              case e4 =>
                intro w' h
                refine (HIH.out X w' (HSX.out.1 HXS.out) HLX.out.1 (kS w' (Same.of_below _ h)) (hI7.kn.kept (h.block _ hI7.kn.lt))).mono ?_
                rintro e w8 ⟨rfl, hs8, hk8⟩
                have hle := needV_le (n := n) hos HLX.out.1
                have hsq := square_le hn
                exact ⟨⟨needV os n X, by omega⟩, rfl, rfl, (Same.of_below _ h).trans hs8, hk8⟩
              case e5 =>
                intro nx w' h
                rcases h with h | h
                · exact kb2 w' (Same.of_below _ h)
                · exact kb2 w' h.2.1
              case e6 =>
                intro nx w' h
                rcases h with h | h
                · exact kb11 w' (Same.of_below _ h)
                · exact kb11 w' h.2.1
              case e7 =>
                intro nx w' h
                refine (HIH.out Y w' (HSX.out.2 HYS.out) HLX.out.2 (kS w' h.2.1) h.2.2).mono ?_
                rintro e w8 ⟨rfl, hs8, hk8⟩
                have hle := needV_le (n := n) hos HLX.out.2
                have hsq := square_le hn
                exact ⟨⟨needV os n Y, by omega⟩, rfl, h.1, rfl, h.2.1.trans hs8, hk8⟩
              case e8 =>
                intro nx ny w' h
                have e := kb7 w' h.2.2.1
                exact ⟨⟨_, by rw [cell_of_heap e]; rfl⟩, frozen_of_heap e, w', h, rfl⟩
              case eQ =>
                rintro nx ny w' ⟨V, ⟨hnx', hny', hsV, hkV⟩, rfl⟩
                rw [hnx', hny']
                have HV := Lib.hid (And.intro hsV hkV)
                clear hsV hkV hnx' hny' kb2 kb11 kS hnx hny
                gi_wp2_with fail
                obtain ⟨hsV, hkV⟩ := HV.out
                have c7' := kb7 V hsV
                have hwV : w.heap.size ≤ b7 := by omega
                have hmb7 : mb ≠ b7 := by omega
                refine ned_end (best' := bestN os n S (i + 1)) (((Same.of_below _ hb7).trans (hsV.mono (fun _ _ e => .inl e))).setCell (.inl (.inr rfl)) _) hC (by omega) (by omega) hlt ?_
                rw [HST.out, HSN.out, if_pos ⟨HXS.out, HYS.out⟩]
                have hne : ∀ k, k ≠ b7 → (V.setCell ⟨b7, 0, none⟩ (.int .i64 (mnN (bestN os n S i) (1 + mxN (needV os n X) (needV os n Y)) : Nat))).heap[k]? = V.heap[k]? := fun k hk => Below.heap_setCell _ _ _ _ hk
                refine ⟨(hI7.sw.trans hsV).setCell (.inr hwV) _, ?_, ?_, heap_setCell_at (k := 0) c7' _, hkV.kept (hne _ hmb7)⟩
                · exact (hne _ (by omega)).trans ((hsV.block _ (heap_lt hI7.c2) (by omega)).trans hI7.c2)
                · exact (hne _ (by omega)).trans ((hsV.block _ (heap_lt hI7.c3) (by omega)).trans hI7.c3)
        case hdone =>
          rintro W C ⟨hI, hC⟩ hdef
          have HI := Lib.hid (And.intro hI hdef)
          have HBN : Hid (bestN os n S (pairsL n).length = needV os n S) := by
            rw [Hid, needV_step hos HS.out HM.out]
            unfold bestN
            rw [List.take_length]
          clear hI hdef hC hmw h7a h7b hz5
          rw [HBN.out] at HI
          go_wp2_with fail
          have hSW : Srt W sb mb n v os := HSR.out.kept HK.out.map HI.out.1.sw
          obtain ⟨hmw, h7a, h7b, hz5⟩ := HZ.out
          refine wpIn_wide.1 (ne13 (b2 := w.heap.size) (b3 := w.heap.size + 1) (b7 := b7) (sb := sb) (mb := mb) (sl := loN S) (sh := hiN S) (z := needV os n S) (S0 := fun w' => Below W.heap.size W w') (S1 := fun w' => Same (fun k => k = mb) W w' ∧ KnownI os n w' mb) ?f0 ?f1 ?f2 ?f3 ?f4 ?f5 ?fQ)
          case f0 => exact (Below.refl _ _).drew
          case f1 => exact fun w' h => by rw [cell_of_heap ((h.block _ (heap_lt HI.out.1.c2)).trans HI.out.1.c2)]; rfl
          case f2 => exact fun w' h => by rw [cell_of_heap ((h.block _ (heap_lt hSW.s)).trans hSW.s)]; rfl
          case f3 =>
            intro w' h
            have e := (h.block _ (heap_lt HI.out.1.c3)).trans HI.out.1.c3
            exact ⟨by rw [cell_of_heap e]; rfl, by rw [cell_of_heap e]; rfl⟩
          case f4 => exact fun w' h => by rw [cell_of_heap ((h.block _ (heap_lt HI.out.1.c7)).trans HI.out.1.c7)]; rfl
          case f5 =>
            intro w' h
            obtain ⟨w8, hr, hs8, _, hk8⟩ := (HI.out.1.kn.kept (h.block _ HI.out.1.kn.lt)).update HS.out
            exact ⟨w8, hr, (Same.of_below _ h).trans hs8, hk8⟩
          case fQ =>
            rintro w8 ⟨hs8, hk8⟩
            have e7 := (hs8.block _ (heap_lt HI.out.1.c7) (by omega)).trans HI.out.1.c7
            have c7 : w8.cell? ⟨b7, 0, none⟩ = some (.int .i64 (needV os n S : Nat)) := by rw [cell_of_heap e7]; rfl
            have H8 := Lib.hid (And.intro hs8 hk8)
            clear hs8 hk8 e7 hmw h7a h7b hz5 hSW
            go_wp2_with fail
            obtain ⟨hs8, hk8⟩ := H8.out
            obtain ⟨hmw, h7a, h7b, hz5⟩ := HZ.out
            have hdl := heap_lt HI.out.2
            have hdw : w.heap.size ≤ w5.heap.size := by omega
            refine leaves_marks (n := w.heap.size) [w5.heap.size] w8 (by simp) (fun k hk => ?_) (fun W' hs hsz => ⟨results_tmp rfl _ _ _, rfl, ?_, ?_⟩)
            · rw [List.mem_singleton] at hk
              subst hk
              exact ⟨hdw, (hs8.block _ hdl (by omega)).trans HI.out.2⟩
            · exact same_later (HI.out.1.sw.trans hs8) hs (fun k e => .inr e.1)
            · exact hk8.kept (hs.block _ hk8.lt (fun e => by omega))
        case hstop =>
          intro c i W C _ h
          exact h.elim
theorem needs_any {n sb mb : Nat} {v : Value} {os : List (List Int)} (hn : n ≤ 5) (hos : os.length ≤ 128) (hl : ∀ o ∈ os, o.length ≤ 16) : ∀ (m S : Nat) (w : World), manyS S ≤ m → S < 2 ^ 128 → Srt w sb mb n v os → KnownI os n w mb →
    Calls Try.prog 72 #[.pointer (some ⟨sb, 0, none⟩), leftV S] w fun e w' => e = .returned (.int .i64 (needV os n S : Nat)) ∧ Same (fun k => k = mb) w w' ∧ KnownI os n w' mb := by
  intro m
  induction m with
  | zero => exact fun S w hm hS hs hk => needs_few (by omega) hS hk
  | succ m ih =>
    intro S w hm hS hs hk
    by_cases h : manyS S ≤ 1
    · exact needs_few h hS hk
    · exact needs_many hn hos hl h hS hs hk (fun T w' hT hT2 hs' hk' => ih T w' (by omega) hT2 hs' hk')
end Go.Proofs.Ytnfhlbmapfoifaa
namespace Go.Proofs.Ytnfhlbmapfoifaa
open Go.RowKit
set_option linter.unusedVariables false
attribute [local go_sem] Oper.semAt_some
structure cp10F (b11 : Nat) (b12 : Nat) (xl : Int) (xh : Int) (yl : Int) (yh : Int) (mx : Nat) (my : Nat) (rl : Nat) (S0 : World → Prop) (S1 : Unit → World → Prop) (S2 : Unit → Unit → World → Prop) (d : Nat → Bool) (x41 x42 x43 x44 x45 x13 : Value) (u1 : Unit) (u2 : Unit) (w : World) : Prop where
  q1 : d 1 = true → d 0 = true
  q3 : d 3 = true → d 1 = true ∧ d 2 = true
  q4 : d 4 = true → d 1 = true ∧ d 3 = true
  q5 : d 5 = true → d 0 = true ∧ d 1 = true ∧ d 2 = true ∧ d 3 = true ∧ d 4 = true
  f0 : d 0 = true → x41 = .agg #[.int .u64 xl, .int .u64 xh]
  f1 : d 1 = true → x42 = .int .i64 mx
  f2 : d 2 = true → x43 = .agg #[.int .u64 yl, .int .u64 yh]
  f3 : d 3 = true → x44 = .int .i64 my
  f4 : d 4 = true → x45 = .int .i64 (mxN mx my : Nat)
  f5 : d 5 = true → x13 = .int .i64 (mxN mx my : Nat)
  st0 : d 1 = false → S0 w
  st1 : d 1 = true → d 3 = false → S1 u1 w
  st2 : d 3 = true → S2 u1 u2 w
noncomputable def cp10C : Code := (Try.f19.body.bind (regionR 10)).getD .skip
set_option maxRecDepth 100000 in
set_option maxHeartbeats 4000000 in
theorem cp10 {b11 : Nat} {b12 : Nat} {xl : Int} {xh : Int} {yl : Int} {yh : Int} {mx : Nat} {my : Nat} {rl : Nat} {S0 : World → Prop} {S1 : Unit → World → Prop} {S2 : Unit → Unit → World → Prop} {Q : Exit → Act → World → Prop} {W1 : World} (h0 : S0 W1.drew)
    (kl0 : Hid (∀ (w : World), (S0 w) → w.cell? ⟨b11, 0, none⟩ = some (.int .u64 xl) ∧ w.cell? ⟨b11, 1, none⟩ = some (.int .u64 xh)))
    (kc1 : Hid (∀ (w : World), S0 w → Calls Try.prog 68 #[.agg #[.int .u64 xl, .int .u64 xh]] w fun e w' => ∃ u1 : Unit, e = .returned (.int .i64 mx) ∧ S1 u1 w'))
    (kl2 : Hid (∀ (u1 : Unit) (w : World), (S0 w ∨ S1 u1 w) → w.cell? ⟨b12, 0, none⟩ = some (.int .u64 yl) ∧ w.cell? ⟨b12, 1, none⟩ = some (.int .u64 yh)))
    (kc3 : Hid (∀ (u1 : Unit) (w : World), S1 u1 w → Calls Try.prog 68 #[.agg #[.int .u64 yl, .int .u64 yh]] w fun e w' => ∃ u2 : Unit, e = .returned (.int .i64 my) ∧ S2 u1 u2 w'))
    {s0 s1 s2 s3 s4 s5 s6 s7 s8 s9 s10 s13 s14 s15 s16 s17 s18 s19 s20 s21 s22 s23 s24 s25 s26 s27 s28 s29 s30 s31 s32 s33 s34 s35 s36 s37 s38 s39 s40 s41 s42 s43 s44 s45 s46 s47 s48 s49 s50 s51 s52 s53 s54 : Value} {dd : List Deferred}
    (hQ : ∀ (u1 : Unit) (u2 : Unit) (w' : World), S2 u1 u2 w' → Q .normal { tmps := #[s0, s1, s2, s3, s4, s5, s6, s7, s8, s9, s10, .pointer (some ⟨b11, 0, none⟩), .pointer (some ⟨b12, 0, none⟩), .int .i64 (mxN mx my : Nat), s14, s15, s16, s17, s18, s19, s20, s21, s22, s23, s24, s25, s26, s27, s28, s29, s30, s31, s32, s33, s34, s35, s36, s37, s38, s39, s40, .agg #[.int .u64 xl, .int .u64 xh], .int .i64 mx, .agg #[.int .u64 yl, .int .u64 yh], .int .i64 my, .int .i64 (mxN mx my : Nat), s46, s47, s48, s49, s50, s51, s52, s53, s54], defers := dd } w') :
    Code.wpIn (wideAt (some rl)) 0 Try.prog cp10C Q { tmps := #[s0, s1, s2, s3, s4, s5, s6, s7, s8, s9, s10, .pointer (some ⟨b11, 0, none⟩), .pointer (some ⟨b12, 0, none⟩), s13, s14, s15, s16, s17, s18, s19, s20, s21, s22, s23, s24, s25, s26, s27, s28, s29, s30, s31, s32, s33, s34, s35, s36, s37, s38, s39, s40, s41, s42, s43, s44, s45, s46, s47, s48, s49, s50, s51, s52, s53, s54], defers := dd } W1 := by
  have HQ := Lib.hid hQ
  clear hQ
  conv => arg 4; whnf
  refine wpIn_region_invG mixed (by kernel_rfl) (fun d_ a_ w' => ∃ (x41 : Value) (x42 : Value) (x43 : Value) (x44 : Value) (x45 : Value) (x13 : Value) (u1 : Unit) (u2 : Unit), a_ = { tmps := #[s0, s1, s2, s3, s4, s5, s6, s7, s8, s9, s10, .pointer (some ⟨b11, 0, none⟩), .pointer (some ⟨b12, 0, none⟩), x13, s14, s15, s16, s17, s18, s19, s20, s21, s22, s23, s24, s25, s26, s27, s28, s29, s30, s31, s32, s33, s34, s35, s36, s37, s38, s39, s40, x41, x42, x43, x44, x45, s46, s47, s48, s49, s50, s51, s52, s53, s54], defers := dd } ∧ cp10F b11 b12 xl xh yl yh mx my rl S0 S1 S2 d_ x41 x42 x43 x44 x45 x13 u1 u2 w') ?_ ?_ ?_
  · refine ⟨s41, s42, s43, s44, s45, s13, default, default, rfl, ?_⟩
    constructor <;> first | rfl | (intro _; rfl) | (intro h; cases h; done) | (intro _; exact h0) | exact h0
  · refine ⟨?_, ?_, ?_, ?_, ?_, ?_, trivial⟩
    all_goals
      rintro d_ a_ w1 K hd_ hdep ⟨x41, x42, x43, x44, x45, x13, u1, u2, rfl, F⟩ HK
      simp [Region.binds] at hdep
    · have hst : S0 w1 := by
        have n_ : d_ 1 = false := by
          cases e_ : d_ 1 with
          | false => rfl
          | true => have h2 := (F.q1 e_); rw [show d_ 0 = false from hd_] at h2; cases h2
        exact (F.st0 n_)
      have kk := kl0.out w1 hst
      obtain ⟨kk0, kk1⟩ := kk
      clear hst
      have HF : Hid (cp10F b11 b12 xl xh yl yh mx my rl S0 S1 S2 (upd d_ 0) (.agg #[.int .u64 xl, .int .u64 xh]) x42 x43 x44 x45 x13 u1 u2 w1) := ⟨fun h => rfl, F.q3, F.q4, fun h => ⟨rfl, (F.q5 h).2.1, (F.q5 h).2.2.1, (F.q5 h).2.2.2.1, (F.q5 h).2.2.2.2⟩, fun _ => rfl, F.f1, F.f2, F.f3, F.f4, F.f5, F.st0, F.st1, F.st2⟩
      clear F
      go_simp
      exact HK.out _ _ ⟨_, _, _, _, _, _, _, _, rfl, HF.out⟩
    · have hS := F.st0  hd_
      obtain rfl := F.f0 (by simp [hdep])
      have hc := kc1.out w1 hS
      have HF := Lib.hid F
      clear F
      go_simp
      refine ⟨trivial, rfl, wideAt_calls (hc.mono ?_)⟩
      rintro e w5 ⟨v_, rfl, hres⟩
      exact HK.out _ _ ⟨_, _, _, _, _, _, v_, u2, rfl, ⟨fun _ => (show _ from (by simp [hdep] : d_ 0 = true)), fun h => ⟨rfl, (HF.out.q3 h).2⟩, fun h => ⟨rfl, (HF.out.q4 h).2⟩, fun h => ⟨(HF.out.q5 h).1, rfl, (HF.out.q5 h).2.2.1, (HF.out.q5 h).2.2.2.1, (HF.out.q5 h).2.2.2.2⟩, HF.out.f0, fun _ => rfl, HF.out.f2, HF.out.f3, HF.out.f4, HF.out.f5, fun h => (by simp [upd] at h), fun _ _ => hres, fun h => (by have h2 : d_ 1 = true := (HF.out.q3 h).1; rw [show d_ 1 = false from hd_] at h2; cases h2)⟩⟩
    · have hst : S0 w1 ∨ S1 u1 w1 := by
        cases e1 : d_ 1 with
        | false => exact .inl ((F.st0 e1))
        | true =>
          have n_ : d_ 3 = false := by
            cases e_ : d_ 3 with
            | false => rfl
            | true => have h2 := (F.q3 e_).2; rw [show d_ 2 = false from hd_] at h2; cases h2
          exact .inr ((F.st1 e1 n_))
      have kk := kl2.out u1 w1 hst
      obtain ⟨kk0, kk1⟩ := kk
      clear hst
      have HF : Hid (cp10F b11 b12 xl xh yl yh mx my rl S0 S1 S2 (upd d_ 2) x41 x42 (.agg #[.int .u64 yl, .int .u64 yh]) x44 x45 x13 u1 u2 w1) := ⟨F.q1, fun h => ⟨(F.q3 h).1, rfl⟩, F.q4, fun h => ⟨(F.q5 h).1, (F.q5 h).2.1, rfl, (F.q5 h).2.2.2.1, (F.q5 h).2.2.2.2⟩, F.f0, F.f1, fun _ => rfl, F.f3, F.f4, F.f5, F.st0, F.st1, F.st2⟩
      clear F
      go_simp
      exact HK.out _ _ ⟨_, _, _, _, _, _, _, _, rfl, HF.out⟩
    · have hS := F.st1 (by simp [hdep] : d_ 1 = true) hd_
      obtain rfl := F.f2 (by simp [hdep])
      have hc := kc3.out u1 w1 hS
      have HF := Lib.hid F
      clear F
      go_simp
      refine ⟨trivial, rfl, wideAt_calls (hc.mono ?_)⟩
      rintro e w5 ⟨v_, rfl, hres⟩
      exact HK.out _ _ ⟨_, _, _, _, _, _, u1, v_, rfl, ⟨HF.out.q1, fun _ => ⟨(show _ from (by simp [hdep] : d_ 1 = true)), (show _ from (by simp [hdep] : d_ 2 = true))⟩, fun h => ⟨(HF.out.q4 h).1, rfl⟩, fun h => ⟨(HF.out.q5 h).1, (HF.out.q5 h).2.1, (HF.out.q5 h).2.2.1, rfl, (HF.out.q5 h).2.2.2.2⟩, HF.out.f0, HF.out.f1, HF.out.f2, fun _ => rfl, HF.out.f4, HF.out.f5, fun h => (by have h2 : d_ 1 = false := h; rw [(by simp [hdep] : d_ 1 = true)] at h2; cases h2), fun _ h => (by simp [upd] at h), fun _ => hres⟩⟩
    · obtain rfl := F.f1 (by simp [hdep])
      obtain rfl := F.f3 (by simp [hdep])
      have HF : Hid (cp10F b11 b12 xl xh yl yh mx my rl S0 S1 S2 (upd d_ 4) x41 (.int .i64 mx) x43 (.int .i64 my) (.int .i64 (mxN mx my : Nat)) x13 u1 u2 w1) := ⟨F.q1, F.q3, fun _ => ⟨(show _ from (by simp [hdep] : d_ 1 = true)), (show _ from (by simp [hdep] : d_ 3 = true))⟩, fun h => ⟨(F.q5 h).1, (F.q5 h).2.1, (F.q5 h).2.2.1, (F.q5 h).2.2.2.1, rfl⟩, F.f0, F.f1, F.f2, F.f3, fun _ => rfl, F.f5, F.st0, F.st1, F.st2⟩
      clear F
      have hmx := mx_eq mx my
      go_simp
      exact HK.out _ _ ⟨_, _, _, _, _, _, _, _, rfl, HF.out⟩
    · obtain rfl := F.f4 (by simp [hdep])
      have HF : Hid (cp10F b11 b12 xl xh yl yh mx my rl S0 S1 S2 (upd d_ 5) x41 x42 x43 x44 (.int .i64 (mxN mx my : Nat)) (.int .i64 (mxN mx my : Nat)) u1 u2 w1) := ⟨F.q1, F.q3, F.q4, fun _ => ⟨(show _ from (by simp [hdep] : d_ 0 = true)), (show _ from (by simp [hdep] : d_ 1 = true)), (show _ from (by simp [hdep] : d_ 2 = true)), (show _ from (by simp [hdep] : d_ 3 = true)), (show _ from (by simp [hdep] : d_ 4 = true))⟩, F.f0, F.f1, F.f2, F.f3, F.f4, fun _ => rfl, F.st0, F.st1, F.st2⟩
      clear F
      go_simp
      exact HK.out _ _ ⟨_, _, _, _, _, _, _, _, rfl, HF.out⟩
  · rintro d_ a_ w1 hall ⟨x41, x42, x43, x44, x45, x13, u1, u2, rfl, F⟩
    have hall' : ∀ k, k < 6 → d_ k = true := hall
    obtain rfl := F.f0 (hall' 0 (by decide))
    obtain rfl := F.f1 (hall' 1 (by decide))
    obtain rfl := F.f2 (hall' 2 (by decide))
    obtain rfl := F.f3 (hall' 3 (by decide))
    obtain rfl := F.f4 (hall' 4 (by decide))
    obtain rfl := F.f5 (hall' 5 (by decide))
    have hst := F.st2 (hall' 3 (by decide))
    exact HQ.out u1 u2 w1 hst
structure cp13F (b2 : Nat) (b3 : Nat) (b4 : Nat) (b5 : Nat) (x : Nat) (y : Nat) (z : Nat) (S0 : World → Prop) (S1 : World → Prop) (S2 : World → Prop) (S3 : World → Prop) (S4 : World → Prop) (d : Nat → Bool) (x52 x53 x54 : Value) (w : World) : Prop where
  q3 : d 3 = true → d 0 = true
  q4 : d 4 = true → d 0 = true ∧ d 1 = true ∧ d 3 = true
  q5 : d 5 = true → d 0 = true ∧ d 1 = true ∧ d 2 = true ∧ d 3 = true ∧ d 4 = true
  q6 : d 6 = true → d 0 = true ∧ d 1 = true ∧ d 2 = true ∧ d 3 = true ∧ d 4 = true ∧ d 5 = true
  f0 : d 0 = true → x52 = .int .i64 x
  f1 : d 1 = true → x53 = .int .i64 y
  f2 : d 2 = true → x54 = .int .i64 z
  st0 : d 3 = false → S0 w
  st1 : d 3 = true → d 4 = false → S1 w
  st2 : d 4 = true → d 5 = false → S2 w
  st3 : d 5 = true → d 6 = false → S3 w
  st4 : d 6 = true → S4 w
noncomputable def cp13C : Code := (Try.f19.body.bind (regionAt 13)).getD .skip
set_option maxRecDepth 100000 in
set_option maxHeartbeats 4000000 in
theorem cp13 {b2 : Nat} {b3 : Nat} {b4 : Nat} {b5 : Nat} {x : Nat} {y : Nat} {z : Nat} {S0 : World → Prop} {S1 : World → Prop} {S2 : World → Prop} {S3 : World → Prop} {S4 : World → Prop} {Q : Exit → Act → World → Prop} {W1 : World} (h0 : S0 W1.drew)
    (kl0 : Hid (∀ (w : World), (S0 w) → w.cell? ⟨b2, 0, none⟩ = some (.int .i64 x)))
    (kl1 : Hid (∀ (w : World), (S0 w ∨ S1 w) → w.cell? ⟨b3, 0, none⟩ = some (.int .i64 y)))
    (kl2 : Hid (∀ (w : World), (S0 w ∨ S1 w ∨ S2 w) → w.cell? ⟨b4, 0, none⟩ = some (.int .i64 z)))
    (kc3 : Hid (∀ (w : World), S0 w → (∃ u, w.cell? ⟨b2, 0, none⟩ = some u) ∧ w.frozen? ⟨b2, 0, none⟩ = false ∧ S1 (w.setCell ⟨b2, 0, none⟩ (.int .i64 x))))
    (kc4 : Hid (∀ (w : World), S1 w → (∃ u, w.cell? ⟨b3, 0, none⟩ = some u) ∧ w.frozen? ⟨b3, 0, none⟩ = false ∧ S2 (w.setCell ⟨b3, 0, none⟩ (.int .i64 y))))
    (kc5 : Hid (∀ (w : World), S2 w → (∃ u, w.cell? ⟨b4, 0, none⟩ = some u) ∧ w.frozen? ⟨b4, 0, none⟩ = false ∧ S3 (w.setCell ⟨b4, 0, none⟩ (.int .i64 z))))
    (kc6 : Hid (∀ (w : World), S3 w → (∃ u, w.cell? ⟨b5, 0, none⟩ = some u) ∧ w.frozen? ⟨b5, 0, none⟩ = false ∧ S4 (w.setCell ⟨b5, 0, none⟩ (.int .i64 0))))
    {s0 s1 s6 s7 s8 s9 s10 s11 s12 s13 s14 s15 s16 s17 s18 s19 s20 s21 s22 s23 s24 s25 s26 s27 s28 s29 s30 s31 s32 s33 s34 s35 s36 s37 s38 s39 s40 s41 s42 s43 s44 s45 s46 s47 s48 s49 s50 s51 s52 s53 s54 : Value} {dd : List Deferred}
    (hQ : ∀ (w' : World), S4 w' → Q .normal { tmps := #[s0, s1, .pointer (some ⟨b2, 0, none⟩), .pointer (some ⟨b3, 0, none⟩), .pointer (some ⟨b4, 0, none⟩), .pointer (some ⟨b5, 0, none⟩), s6, s7, s8, s9, s10, s11, s12, s13, s14, s15, s16, s17, s18, s19, s20, s21, s22, s23, s24, s25, s26, s27, s28, s29, s30, s31, s32, s33, s34, s35, s36, s37, s38, s39, s40, s41, s42, s43, s44, s45, s46, s47, s48, s49, s50, s51, .int .i64 x, .int .i64 y, .int .i64 z], defers := dd } w') :
    Code.wpIn (wideAt none) 0 Try.prog cp13C Q { tmps := #[s0, s1, .pointer (some ⟨b2, 0, none⟩), .pointer (some ⟨b3, 0, none⟩), .pointer (some ⟨b4, 0, none⟩), .pointer (some ⟨b5, 0, none⟩), s6, s7, s8, s9, s10, s11, s12, s13, s14, s15, s16, s17, s18, s19, s20, s21, s22, s23, s24, s25, s26, s27, s28, s29, s30, s31, s32, s33, s34, s35, s36, s37, s38, s39, s40, s41, s42, s43, s44, s45, s46, s47, s48, s49, s50, s51, s52, s53, s54], defers := dd } W1 := by
  have HQ := Lib.hid hQ
  clear hQ
  conv => arg 4; whnf
  refine wpIn_region_invG mixed (by kernel_rfl) (fun d_ a_ w' => ∃ (x52 : Value) (x53 : Value) (x54 : Value), a_ = { tmps := #[s0, s1, .pointer (some ⟨b2, 0, none⟩), .pointer (some ⟨b3, 0, none⟩), .pointer (some ⟨b4, 0, none⟩), .pointer (some ⟨b5, 0, none⟩), s6, s7, s8, s9, s10, s11, s12, s13, s14, s15, s16, s17, s18, s19, s20, s21, s22, s23, s24, s25, s26, s27, s28, s29, s30, s31, s32, s33, s34, s35, s36, s37, s38, s39, s40, s41, s42, s43, s44, s45, s46, s47, s48, s49, s50, s51, x52, x53, x54], defers := dd } ∧ cp13F b2 b3 b4 b5 x y z S0 S1 S2 S3 S4 d_ x52 x53 x54 w') ?_ ?_ ?_
  · refine ⟨s52, s53, s54, rfl, ?_⟩
    constructor <;> first | rfl | (intro _; rfl) | (intro h; cases h; done) | (intro _; exact h0) | exact h0
  · refine ⟨?_, ?_, ?_, ?_, ?_, ?_, ?_, trivial⟩
    all_goals
      rintro d_ a_ w1 K hd_ hdep ⟨x52, x53, x54, rfl, F⟩ HK
      simp [Region.binds] at hdep
    · have hst : S0 w1 := by
        have n_ : d_ 3 = false := by
          cases e_ : d_ 3 with
          | false => rfl
          | true => have h2 := (F.q3 e_); rw [show d_ 0 = false from hd_] at h2; cases h2
        exact (F.st0 n_)
      have kk := kl0.out w1 hst
      clear hst
      have HF : Hid (cp13F b2 b3 b4 b5 x y z S0 S1 S2 S3 S4 (upd d_ 0) (.int .i64 x) x53 x54 w1) := ⟨fun h => rfl, fun h => ⟨rfl, (F.q4 h).2.1, (F.q4 h).2.2⟩, fun h => ⟨rfl, (F.q5 h).2.1, (F.q5 h).2.2.1, (F.q5 h).2.2.2.1, (F.q5 h).2.2.2.2⟩, fun h => ⟨rfl, (F.q6 h).2.1, (F.q6 h).2.2.1, (F.q6 h).2.2.2.1, (F.q6 h).2.2.2.2.1, (F.q6 h).2.2.2.2.2⟩, fun _ => rfl, F.f1, F.f2, F.st0, F.st1, F.st2, F.st3, F.st4⟩
      clear F
      go_simp
      exact HK.out _ _ ⟨_, _, _, rfl, HF.out⟩
    · have hst : S0 w1 ∨ S1 w1 := by
        cases e1 : d_ 3 with
        | false => exact .inl ((F.st0 e1))
        | true =>
          have n_ : d_ 4 = false := by
            cases e_ : d_ 4 with
            | false => rfl
            | true => have h2 := (F.q4 e_).2.1; rw [show d_ 1 = false from hd_] at h2; cases h2
          exact .inr ((F.st1 e1 n_))
      have kk := kl1.out w1 hst
      clear hst
      have HF : Hid (cp13F b2 b3 b4 b5 x y z S0 S1 S2 S3 S4 (upd d_ 1) x52 (.int .i64 y) x54 w1) := ⟨F.q3, fun h => ⟨(F.q4 h).1, rfl, (F.q4 h).2.2⟩, fun h => ⟨(F.q5 h).1, rfl, (F.q5 h).2.2.1, (F.q5 h).2.2.2.1, (F.q5 h).2.2.2.2⟩, fun h => ⟨(F.q6 h).1, rfl, (F.q6 h).2.2.1, (F.q6 h).2.2.2.1, (F.q6 h).2.2.2.2.1, (F.q6 h).2.2.2.2.2⟩, F.f0, fun _ => rfl, F.f2, F.st0, F.st1, F.st2, F.st3, F.st4⟩
      clear F
      go_simp
      exact HK.out _ _ ⟨_, _, _, rfl, HF.out⟩
    · have hst : S0 w1 ∨ S1 w1 ∨ S2 w1 := by
        cases e1 : d_ 3 with
        | false => exact .inl ((F.st0 e1))
        | true =>
          cases e2 : d_ 4 with
          | false => exact .inr (.inl ((F.st1 e1 e2)))
          | true =>
            have n_ : d_ 5 = false := by
              cases e_ : d_ 5 with
              | false => rfl
              | true => have h2 := (F.q5 e_).2.2.1; rw [show d_ 2 = false from hd_] at h2; cases h2
            exact .inr (.inr ((F.st2 e2 n_)))
      have kk := kl2.out w1 hst
      clear hst
      have HF : Hid (cp13F b2 b3 b4 b5 x y z S0 S1 S2 S3 S4 (upd d_ 2) x52 x53 (.int .i64 z) w1) := ⟨F.q3, F.q4, fun h => ⟨(F.q5 h).1, (F.q5 h).2.1, rfl, (F.q5 h).2.2.2.1, (F.q5 h).2.2.2.2⟩, fun h => ⟨(F.q6 h).1, (F.q6 h).2.1, rfl, (F.q6 h).2.2.2.1, (F.q6 h).2.2.2.2.1, (F.q6 h).2.2.2.2.2⟩, F.f0, F.f1, fun _ => rfl, F.st0, F.st1, F.st2, F.st3, F.st4⟩
      clear F
      go_simp
      exact HK.out _ _ ⟨_, _, _, rfl, HF.out⟩
    · have hS := F.st0  hd_
      obtain rfl := F.f0 (by simp [hdep])
      obtain ⟨⟨u0, kcell0⟩, kfr0, hres⟩ := kc3.out w1 hS
      have HF : Hid (cp13F b2 b3 b4 b5 x y z S0 S1 S2 S3 S4 (upd d_ 3) (.int .i64 x) x53 x54 (w1.setCell ⟨b2, 0, none⟩ (.int .i64 x))) := ⟨fun _ => (show _ from (by simp [hdep] : d_ 0 = true)), fun h => ⟨(F.q4 h).1, (F.q4 h).2.1, rfl⟩, fun h => ⟨(F.q5 h).1, (F.q5 h).2.1, (F.q5 h).2.2.1, rfl, (F.q5 h).2.2.2.2⟩, fun h => ⟨(F.q6 h).1, (F.q6 h).2.1, (F.q6 h).2.2.1, rfl, (F.q6 h).2.2.2.2.1, (F.q6 h).2.2.2.2.2⟩, F.f0, F.f1, F.f2, fun h => (by simp [upd] at h), fun _ _ => hres, fun h _ => (by have h2 : d_ 3 = true := (F.q4 h).2.2; rw [show d_ 3 = false from hd_] at h2; cases h2), fun h _ => (by have h2 : d_ 3 = true := (F.q5 h).2.2.2.1; rw [show d_ 3 = false from hd_] at h2; cases h2), fun h => (by have h2 : d_ 3 = true := (F.q6 h).2.2.2.1; rw [show d_ 3 = false from hd_] at h2; cases h2)⟩
      clear F hS hres
      go_simp
      exact HK.out _ _ ⟨_, _, _, rfl, HF.out⟩
    · have hS := F.st1 (by simp [hdep] : d_ 3 = true) hd_
      obtain rfl := F.f1 (by simp [hdep])
      obtain ⟨⟨u0, kcell0⟩, kfr0, hres⟩ := kc4.out w1 hS
      have HF : Hid (cp13F b2 b3 b4 b5 x y z S0 S1 S2 S3 S4 (upd d_ 4) x52 (.int .i64 y) x54 (w1.setCell ⟨b3, 0, none⟩ (.int .i64 y))) := ⟨F.q3, fun _ => ⟨(show _ from (by simp [hdep] : d_ 0 = true)), (show _ from (by simp [hdep] : d_ 1 = true)), (show _ from (by simp [hdep] : d_ 3 = true))⟩, fun h => ⟨(F.q5 h).1, (F.q5 h).2.1, (F.q5 h).2.2.1, (F.q5 h).2.2.2.1, rfl⟩, fun h => ⟨(F.q6 h).1, (F.q6 h).2.1, (F.q6 h).2.2.1, (F.q6 h).2.2.2.1, rfl, (F.q6 h).2.2.2.2.2⟩, F.f0, F.f1, F.f2, fun h => (by have h2 : d_ 3 = false := h; rw [(by simp [hdep] : d_ 3 = true)] at h2; cases h2), fun _ h => (by simp [upd] at h), fun _ _ => hres, fun h _ => (by have h2 : d_ 4 = true := (F.q5 h).2.2.2.2; rw [show d_ 4 = false from hd_] at h2; cases h2), fun h => (by have h2 : d_ 4 = true := (F.q6 h).2.2.2.2.1; rw [show d_ 4 = false from hd_] at h2; cases h2)⟩
      clear F hS hres
      go_simp
      exact HK.out _ _ ⟨_, _, _, rfl, HF.out⟩
    · have hS := F.st2 (by simp [hdep] : d_ 4 = true) hd_
      obtain rfl := F.f2 (by simp [hdep])
      obtain ⟨⟨u0, kcell0⟩, kfr0, hres⟩ := kc5.out w1 hS
      have HF : Hid (cp13F b2 b3 b4 b5 x y z S0 S1 S2 S3 S4 (upd d_ 5) x52 x53 (.int .i64 z) (w1.setCell ⟨b4, 0, none⟩ (.int .i64 z))) := ⟨F.q3, F.q4, fun _ => ⟨(show _ from (by simp [hdep] : d_ 0 = true)), (show _ from (by simp [hdep] : d_ 1 = true)), (show _ from (by simp [hdep] : d_ 2 = true)), (show _ from (by simp [hdep] : d_ 3 = true)), (show _ from (by simp [hdep] : d_ 4 = true))⟩, fun h => ⟨(F.q6 h).1, (F.q6 h).2.1, (F.q6 h).2.2.1, (F.q6 h).2.2.2.1, (F.q6 h).2.2.2.2.1, rfl⟩, F.f0, F.f1, F.f2, fun h => (by have h2 : d_ 3 = false := h; rw [(by simp [hdep] : d_ 3 = true)] at h2; cases h2), fun _ h => (by have h2 : d_ 4 = false := h; rw [(by simp [hdep] : d_ 4 = true)] at h2; cases h2), fun _ h => (by simp [upd] at h), fun _ _ => hres, fun h => (by have h2 : d_ 5 = true := (F.q6 h).2.2.2.2.2; rw [show d_ 5 = false from hd_] at h2; cases h2)⟩
      clear F hS hres
      go_simp
      exact HK.out _ _ ⟨_, _, _, rfl, HF.out⟩
    · have hS := F.st3 (by simp [hdep] : d_ 5 = true) hd_
      obtain ⟨⟨u0, kcell0⟩, kfr0, hres⟩ := kc6.out w1 hS
      have HF : Hid (cp13F b2 b3 b4 b5 x y z S0 S1 S2 S3 S4 (upd d_ 6) x52 x53 x54 (w1.setCell ⟨b5, 0, none⟩ (.int .i64 0))) := ⟨F.q3, F.q4, F.q5, fun _ => ⟨(show _ from (by simp [hdep] : d_ 0 = true)), (show _ from (by simp [hdep] : d_ 1 = true)), (show _ from (by simp [hdep] : d_ 2 = true)), (show _ from (by simp [hdep] : d_ 3 = true)), (show _ from (by simp [hdep] : d_ 4 = true)), (show _ from (by simp [hdep] : d_ 5 = true))⟩, F.f0, F.f1, F.f2, fun h => (by have h2 : d_ 3 = false := h; rw [(by simp [hdep] : d_ 3 = true)] at h2; cases h2), fun _ h => (by have h2 : d_ 4 = false := h; rw [(by simp [hdep] : d_ 4 = true)] at h2; cases h2), fun _ h => (by have h2 : d_ 5 = false := h; rw [(by simp [hdep] : d_ 5 = true)] at h2; cases h2), fun _ h => (by simp [upd] at h), fun _ => hres⟩
      clear F hS hres
      go_simp
      exact HK.out _ _ ⟨_, _, _, rfl, HF.out⟩
  · rintro d_ a_ w1 hall ⟨x52, x53, x54, rfl, F⟩
    have hall' : ∀ k, k < 7 → d_ k = true := hall
    obtain rfl := F.f0 (hall' 0 (by decide))
    obtain rfl := F.f1 (hall' 1 (by decide))
    obtain rfl := F.f2 (hall' 2 (by decide))
    have hst := F.st4 (hall' 6 (by decide))
    exact HQ.out  w1 hst
def needsE (p : Prs) : Int × Int := if ordersE p = 0 then (((needV (ordersL p) p.cards.length (allS (ordersL p).length) : Nat) : Int), 0) else (0, ordersE p)
theorem orders_mem {p : Prs} : ∀ (d : Nat) (pre : List Int), ∀ o ∈ onO p d pre, o.length = pre.length + d
  | 0, pre, o, h => by
    rw [onO_zero] at h
    split at h
    · simp at h; subst h; rfl
    · simp at h
  | d + 1, pre, o, h => by
    rw [onO_succ, List.mem_flatMap] at h
    obtain ⟨i, _, h⟩ := h
    unfold oF at h
    split at h
    · simp at h
    · have := orders_mem d _ o h
      simp at this
      omega
theorem orders_at {p : Prs} {o : List Int} (h : o ∈ ordersL p) : o.length = p.cards.length := by
  have := orders_mem _ _ o h
  simpa using this
set_option maxRecDepth 100000 in
set_option maxHeartbeats 4000000 in
theorem needs22 {p : Prs} {a : Option Addr} {cap : Nat} {w : World} (ha : IsPrts w a p.cards) (hn : p.cards.length ≤ 16) :
    Calls Try.prog 22 #[p.v a cap] w fun e w' => e = .returned (.tuple #[.int .i64 (needsE p).1, .int .i64 (needsE p).2]) ∧ Below w.heap.size w w' := by
  have hmf : ∀ (fn : Fn) (first cap : Array Value) (w : World), (Instr.makeFunc fn first cap).run Try.prog w = .ok (.func fn first cap) w := fun _ _ _ _ => rfl
  have HC := Lib.hid cf71
  refine calls_of_wp_x Try.func22 rfl ?_
  simp only [Try.ntmps22, List.size_toArray, List.length_cons, List.length_nil, Nat.reduceAdd, Nat.reduceSub, Array.replicate_succ, Array.replicate_zero, List.push_toArray, List.append_toArray, List.nil_append, List.cons_append]
  go_wp2_with fail
  obtain ⟨q0, q1, hz, hb⟩ := heap2 w (.cells (p.cells a cap) 26) (.cells #[.int .i64 0] 29)
  revert q0 q1 hz hb
  generalize ((w.alloc (.cells (p.cells a cap) 26)).alloc (.cells #[.int .i64 0] 29)) = W1
  intro q0 q1 hz hb
  refine (sorter66 (ha.mono hb) hn).mono ?_
  rintro e w2 ⟨h2, hb2⟩
  have hB2 := hb.trans (hb2.mono hb.size)
  have he2 := (hb2.block _ (heap_lt q1)).trans q1
  have hz2 := hb2.size
  rcases h2 with ⟨hE, sb, mb, v, rfl, hS, hm, hsb, hmb, _⟩ | ⟨hE, rfl⟩
  · have hv := ordersE_valid hE
    have hn5 := (valid_parts hv).1
    have hfew := orders_few hv
    have HNE : Hid (needsE p = (((needV (ordersL p) p.cards.length (allS (ordersL p).length) : Nat) : Int), 0)) := by rw [Hid]; unfold needsE; rw [if_pos hE]
    have HF := Lib.hid (And.intro hS (And.intro hm (And.intro hsb (And.intro hmb (And.intro he2 (And.intro hB2 (And.intro hz hz2)))))))
    have HX := Lib.hid (And.intro hn5 hfew)
    clear hS hm hsb hmb he2 hB2 hz hz2 hE hv hn5 hfew q0 q1 hb hb2 ha
    go_wp2_with fail
    obtain ⟨hS, hm, hsb, hmb, he2, hB2, hz, hz2⟩ := HF.out
    have hb4 : Below w2.heap.size w2 (w2.alloc (.cells (leftA (allS (ordersL p).length)) 95)) := (Below.refl _ _).alloc (Nat.le_refl _) _
    have hm4 := (hb4.block _ (heap_lt hm)).trans hm
    refine (needs_any HX.out.1 (by have := HX.out.2; omega) (fun o ho => by rw [orders_at ho]; exact hn) _ (allS (ordersL p).length) _ (Nat.le_refl _) (allS_lt (by have := HX.out.2; omega)) (hS.below hb4) (KnownI.made _ _ hm4)).mono ?_
    rintro e w5 ⟨rfl, hs5, _⟩
    have hB5 : Below w.heap.size w w5 := (hB2.trans (hb4.mono hB2.size)).trans (hs5.below (by have := hB2.size; simp; omega) (fun k hk e => by omega))
    have e5 := (hs5.block _ (by simp; have := heap_lt he2; omega) (by omega)).trans ((hb4.block _ (heap_lt he2)).trans he2)
    have c5 : w5.cell? ⟨w.heap.size + 1, 0, none⟩ = some (.int .i64 0) := by rw [cell_of_heap e5]; rfl
    have f5 : w5.frozen? ⟨w.heap.size + 1, 0, none⟩ = false := frozen_of_heap e5
    have H5 := Lib.hid (And.intro hB5 e5)
    clear hS hm hsb hmb he2 hB2 hz hz2 hb4 hm4 hs5 hB5 e5
    go_wp2_with fail
    have e9 := heap_setCell_at (k := 0) H5.out.2 (.int .i64 0)
    refine ⟨[], _, rfl, leaves_ok (recov71_ok _ _) HC.out (res_tc rfl _ rfl (x := .int .i64 0) (by rw [cell_of_heap e9]; rfl)) ⟨?_, H5.out.1.setCell (by show w.heap.size ≤ w.heap.size + 1; omega) _⟩⟩
    rw [HNE.out]
    rfl
  · have hc2 : w2.cell? ⟨w.heap.size + 1, 0, none⟩ = some (.int .i64 0) := by rw [cell_of_heap he2]; rfl
    have hb3 : Below w.heap.size w ((w2.alloc (.cells #[.int .i64 (ordersE p)] 115)).setCell ⟨w.heap.size + 1, 0, none⟩ (.int .i64 (ordersE p))) :=
      (hB2.alloc hB2.size _).setCell (by simp) _
    have hcell := World.cell?_setCell_same (w2.alloc (.cells #[.int .i64 (ordersE p)] 115)) ⟨w.heap.size + 1, 0, none⟩ (.int .i64 (ordersE p)) (cell_stays ((Below.refl _ w2).alloc (Nat.le_refl _) _) hc2)
    refine ⟨[], _, rfl, leaves_no (recov71_no (ordersE p) hc2 (frozen_of_heap he2)) rfl HC.out (res_tc rfl _ rfl hcell) ⟨?_, hb3⟩⟩
    have : needsE p = (0, ordersE p) := by unfold needsE; rw [if_neg hE]
    rw [this]
    rfl
end Go.Proofs.Ytnfhlbmapfoifaa
