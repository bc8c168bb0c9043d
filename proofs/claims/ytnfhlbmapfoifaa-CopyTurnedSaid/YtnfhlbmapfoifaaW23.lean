/- Whether these are cards. Where a number is in a list; the way of an order. -/
import Derived.Test.YtnfhlbmapfoifaaW18
import Derived.Test.YtnfhlbmapfoifaaW9
import Derived.Laws.MakeOwn
import Derived.LoopTactic
namespace Go.Proofs.Ytnfhlbmapfoifaa
open Go.RowKit
set_option linter.unusedVariables false

set_option maxHeartbeats 1000000 in
theorem card95 {p : Prs} {a : Option Addr} {cap bq : Nat} {w : World} (hn : p.cards.length ≤ 16) (n : Int) (hc : w.cell? ⟨bq, 0, none⟩ = some (.slice a p.cards.length cap)) :
    Calls Try.prog 95 #[.int .i64 n, .pointer (some ⟨bq, 0, none⟩)] w fun e w' => e = .returned (.bool (!p.card n)) ∧ w = w' := by
  have HC : Hid (p.card n = inR n 0 ((p.cards.length : Int) - 1)) := rfl
  go_enter Try.func95, Try.ntmps95
  go_wp2_with fail
  refine (within_any _ _ _ _).mono ?_
  rintro e w' ⟨rfl, rfl⟩
  cases h : inR n 0 ((p.cards.length : Int) - 1)
  all_goals
    have H := Lib.hid h
    clear h
    go_wp2_with fail
    go_ret
    rw [HC.out, H.out]
    exact ⟨rfl, rfl⟩
/-- Where one is that is no card. -/
def IdxOk (p : Prs) (l : List Int) (r : Int) : Prop := (l.all p.card = true → r = -1) ∧ (l.all p.card = false → 0 ≤ r)
set_option maxHeartbeats 1000000 in
theorem index117 {p : Prs} {a : Option Addr} {cap bq : Nat} {l : List Int} {al : Option Addr} {cl : Nat} {w : World} (hn : p.cards.length ≤ 16) (hl : l.length ≤ 1000) (ha : IsInts w al l) (hc : w.cell? ⟨bq, 0, none⟩ = some (.slice a p.cards.length cap)) :
    Calls Try.prog 117 #[.slice al l.length cl, .func (.func 95) #[] #[.pointer (some ⟨bq, 0, none⟩)]] w fun e w' => ∃ r : Int, e = .returned (.int .i64 r) ∧ IdxOk p l r ∧ w = w' := by
  have cf95 : ∀ (args : Array Value) (w : World), (callFunc 95 args).run Try.prog w = .ok (.enter 95 args) w := fun args w => by simp [callFunc, Try.func95, Try.f95, go_sem]
  go_enter Try.func117, Try.ntmps117
  go_wp2_with fail
  go_loop [8] (fun i => ∃ k : Nat, k ≤ l.length ∧ i = .int .i64 k ∧ Hid (∀ j, j < k → p.card (gi l j) = true)) (fun i => l.length - (intOf i).toNat)
  case atStart => exact ⟨0, by omega, rfl, fun j hj => by omega⟩
  case round =>
    obtain ⟨k, hk, rfl, HK⟩ := hrel
    by_cases hlt : k < l.length
    · obtain ⟨b, off, rfl, hc0⟩ := ha k hlt
      go_wp2_with fail
      refine (card95 hn _ hc).mono ?_
      rintro e w' ⟨rfl, rfl⟩
      cases h : p.card (gi l k)
      · have H := Lib.hid h
        clear h
        go_wp2_with fail
        go_ret
        refine ⟨_, rfl, ?_, rfl⟩
        unfold IdxOk
        have : l.all p.card = false := by
          rw [List.all_eq_false]
          refine ⟨l[k], List.getElem_mem hlt, ?_⟩
          have e : gi l k = l[k] := by simp [gi, hlt]
          rw [← e, H.out]
          simp
        rw [this]
        exact ⟨(fun h => by cases h), (fun _ => by omega)⟩
      · have H := Lib.hid h
        clear h
        go_wp2_with fail
        go_round
        case rel => exact ⟨k + 1, by omega, by go_num, fun j hj => by
          by_cases e : j = k
          · subst e; exact H.out
          · exact HK.out j (by omega)⟩
        case measure => simp [intOf]; omega
    · obtain rfl : k = l.length := by omega
      have HI : Hid (IdxOk p l (-1)) := by
        have : l.all p.card = true := by
          rw [List.all_eq_true]
          intro x hx
          obtain ⟨i, hi, rfl⟩ := List.getElem_of_mem hx
          have e : gi l i = l[i] := by simp [gi, hi]
          rw [← e]
          exact HK.out i hi
        rw [Hid]
        unfold IdxOk
        rw [this]
        exact ⟨(fun _ => rfl), (fun h => by cases h)⟩
      clear ha hlt hc HK hk
      go_wp2_with fail
      go_ret
      exact ⟨_, rfl, HI.out, rfl⟩
set_option maxHeartbeats 1000000 in
theorem contains94 {p : Prs} {a : Option Addr} {cap bq : Nat} {l : List Int} {al : Option Addr} {cl : Nat} {w : World} (hn : p.cards.length ≤ 16) (hl : l.length ≤ 1000) (ha : IsInts w al l) (hc : w.cell? ⟨bq, 0, none⟩ = some (.slice a p.cards.length cap)) :
    Calls Try.prog 94 #[.slice al l.length cl, .func (.func 95) #[] #[.pointer (some ⟨bq, 0, none⟩)]] w fun e w' => e = .returned (.bool (!l.all p.card)) ∧ w = w' := by
  go_enter Try.func94, Try.ntmps94
  go_wp2_with fail
  refine (index117 hn hl ha hc).mono ?_
  rintro e w' ⟨r, rfl, hr, rfl⟩
  cases h : l.all p.card
  all_goals
    have hr2 := hr
    unfold IdxOk at hr2
    rw [h] at hr2
    have H := Lib.hid h
    first | (have hr3 := hr2.2 rfl) | (have hr3 := hr2.1 rfl)
    clear h hr hr2
    try subst hr3
    go_wp2_with fail
    go_ret
    rw [H.out]
    exact ⟨rfl, rfl⟩
set_option maxHeartbeats 1000000 in
theorem isCard_any {p : Prs} {a : Option Addr} {cap : Nat} {l : List Int} {al : Option Addr} {cl : Nat} {w : World} (hn : p.cards.length ≤ 16) (hl : l.length ≤ 1000) (ha : IsInts w al l) :
    Calls Try.prog 52 #[p.v a cap, .slice al l.length cl] w fun e w' => e = .returned (.bool (l.all p.card)) ∧ Below w.heap.size w w' := by
  have hmf : ∀ (fn : Fn) (first cap : Array Value) (w : World), (Instr.makeFunc fn first cap).run Try.prog w = .ok (.func fn first cap) w := fun _ _ _ _ => rfl
  have hb1 : Below w.heap.size w (w.alloc (.cells (p.cells a cap) 26)) := (Below.refl _ w).alloc (Nat.le_refl _) _
  have q := World.alloc_heap_new w (.cells (p.cells a cap) 26)
  have HH := Lib.hid (And.intro hb1 (And.intro q (ha.mono hb1)))
  clear hb1 q ha
  go_enter Try.func52, Try.ntmps52
  go_wp2_with fail
  have hc : (w.alloc (.cells (p.cells a cap) 26)).cell? ⟨w.heap.size, 0, none⟩ = some (.slice a p.cards.length cap) := by rw [cell_of_heap HH.out.2.1]; rfl
  refine (contains94 hn hl HH.out.2.2 hc).mono ?_
  rintro e w' ⟨rfl, rfl⟩
  clear hc
  cases h : l.all p.card
  all_goals
    have H := Lib.hid h
    clear h
    go_wp2_with fail
    go_ret
    rw [H.out]
    exact ⟨rfl, HH.out.1⟩
end Go.Proofs.Ytnfhlbmapfoifaa

namespace Go.Proofs.Ytnfhlbmapfoifaa
open Go.RowKit
set_option linter.unusedVariables false

theorem indexFrom_cons_ne {x v : Int} {r : List Int} {k : Nat} (h : x ≠ v) : indexFrom (x :: r) v k = indexFrom r v (k + 1) := by
  show (if x = v then (k : Int) else indexFrom r v (k + 1)) = _
  rw [if_neg h]
theorem indexFrom_drop {l : List Int} {v : Int} : ∀ (k : Nat), k ≤ l.length → (∀ j, j < k → gi l j ≠ v) → indexL l v = indexFrom (l.drop k) v k
  | 0, _, _ => rfl
  | k + 1, hk, h => by
    rw [indexFrom_drop k (by omega) (fun j hj => h j (by omega))]
    have hlt : k < l.length := by omega
    rw [List.drop_eq_getElem_cons hlt]
    refine indexFrom_cons_ne ?_
    have := h k (by omega)
    simpa [gi, hlt] using this
theorem indexL_hit {l : List Int} {v : Int} {k : Nat} (hk : k < l.length) (h : ∀ j, j < k → gi l j ≠ v) (hv : gi l k = v) : indexL l v = (k : Int) := by
  rw [indexFrom_drop k (by omega) h, List.drop_eq_getElem_cons hk]
  have : l[k] = v := by simpa [gi, hk] using hv
  show (if l[k] = v then (k : Int) else _) = _
  rw [if_pos this]
theorem indexL_miss {l : List Int} {v : Int} (h : ∀ j, j < l.length → gi l j ≠ v) : indexL l v = -1 := by
  rw [indexFrom_drop l.length (Nat.le_refl _) h, List.drop_length]; rfl
theorem indexL_rng (l : List Int) (v : Int) : -1 ≤ indexL l v ∧ indexL l v < l.length ∧ (0 ≤ indexL l v ↔ v ∈ l) := by
  by_cases h : v ∈ l
  · obtain ⟨i, hi, e⟩ := List.getElem_of_mem h
    have key : ∀ m, m ≤ l.length → (∀ j, j < m → gi l j ≠ v) ∨ ∃ k, k < l.length ∧ (∀ j, j < k → gi l j ≠ v) ∧ gi l k = v := by
      intro m
      induction m with
      | zero => intro _; exact .inl (fun j hj => by omega)
      | succ m ih =>
        intro hm
        rcases ih (by omega) with h1 | h1
        · by_cases h2 : gi l m = v
          · exact .inr ⟨m, by omega, h1, h2⟩
          · refine .inl (fun j hj => ?_)
            by_cases e : j = m
            · subst e; exact h2
            · exact h1 j (by omega)
        · exact .inr h1
    rcases key l.length (Nat.le_refl _) with h1 | ⟨k, hk, h1, h2⟩
    · exact (h1 i hi (by simpa [gi, hi] using e)).elim
    · rw [indexL_hit hk h1 h2]
      exact ⟨by omega, by omega, by constructor <;> intro _ <;> first | exact h | omega⟩
  · have : indexL l v = -1 := indexL_miss (fun j hj e => h (by
      have : l[j] = v := by simpa [gi, hj] using e
      rw [← this]; exact List.getElem_mem hj))
    rw [this]
    exact ⟨by omega, by omega, by constructor <;> intro h' <;> first | omega | exact (h h').elim⟩
set_option maxHeartbeats 1000000 in
theorem index_any {l : List Int} {v : Int} (hl : l.length ≤ 1000) {a : Option Addr} {cap : Nat} {w : World} (ha : IsInts w a l) :
    Calls Try.prog 107 #[.slice a l.length cap, .int .i64 v] w fun e w' => e = .returned (.int .i64 (indexL l v)) ∧ w = w' := by
  go_enter Try.func107, Try.ntmps107
  go_wp2
  go_loop [8] (fun i => ∃ k : Nat, k ≤ l.length ∧ i = .int .i64 k ∧ Hid (∀ j, j < k → gi l j ≠ v)) (fun i => l.length - (intOf i).toNat)
  case atStart => exact ⟨0, by omega, rfl, fun j hj => by omega⟩
  case round =>
    obtain ⟨k, hk, rfl, HK⟩ := hrel
    by_cases hlt : k < l.length
    · obtain ⟨b, off, rfl, hc⟩ := ha k hlt
      by_cases h1 : gi l k = v
      · have H1 := Lib.hid h1
        have hb : (v == gi l k) = true := by simp [h1]
        have HI := Lib.hid (indexL_hit hlt HK.out h1)
        clear h1
        go_wp2
        go_ret
        exact ⟨ret_int HI.out.symm, rfl⟩
      · have H1 := Lib.hid h1
        have hb : (v == gi l k) = false := by simpa using fun e => h1 e.symm
        clear h1
        go_wp2
        go_round
        case rel => exact ⟨k + 1, by omega, by go_num, fun j hj => by
          by_cases e : j = k
          · subst e; exact H1.out
          · exact HK.out j (by omega)⟩
        case measure => simp [intOf]; omega
    · obtain rfl : k = l.length := by omega
      have HI := Lib.hid (indexL_miss HK.out)
      go_wp2
      go_ret
      exact ⟨ret_int HI.out.symm, rfl⟩
set_option maxHeartbeats 1000000 in
theorem has104_any {l : List Int} {v : Int} (hl : l.length ≤ 1000) {a : Option Addr} {cap : Nat} {w : World} (ha : IsInts w a l) :
    Calls Try.prog 104 #[.slice a l.length cap, .int .i64 v] w fun e w' => e = .returned (.bool (decide (v ∈ l))) ∧ w = w' := by
  have hr := (indexL_rng l v).2.2
  have HR := Lib.hid hr
  clear hr
  go_enter Try.func104, Try.ntmps104
  go_wp2_with fail
  refine (index_any hl ha).mono ?_
  rintro e w' ⟨rfl, rfl⟩
  by_cases h : v ∈ l
  · have h2 := HR.out.2 h
    have HH := Lib.hid h
    clear h
    go_wp2_with fail
    go_ret
    exact ⟨ret_bool (by simp [HH.out]), rfl⟩
  · have h2 : ¬ 0 ≤ indexL l v := fun e => h (HR.out.1 e)
    have HH := Lib.hid (And.intro h h2)
    clear h
    go_wp2_with fail
    go_ret
    exact ⟨ret_bool (by have := HH.out.2; simp [HH.out.1]; omega), rfl⟩

/-! ### the way of an order -/
def lastF (last : Int) : List Int → Int
  | [] => last
  | x :: r => lastF x r
theorem chainF_snoc (x : Int) : ∀ (l : List Int) (w : List Int) (last : Int), chainF w last (l ++ [x]) = (chainF w last l).set x.toNat (lastF last l)
  | [], w, last => rfl
  | y :: r, w, last => chainF_snoc x r _ _
theorem lastF_snoc (x : Int) : ∀ (l : List Int) (last : Int), lastF last (l ++ [x]) = x
  | [], last => rfl
  | y :: r, last => lastF_snoc x r _
theorem chainF_len : ∀ (l : List Int) (w : List Int) (last : Int), (chainF w last l).length = w.length
  | [], w, last => rfl
  | y :: r, w, last => by
    show (chainF (w.set y.toNat last) y r).length = _
    rw [chainF_len r]; simp
theorem chainL_len (o : List Int) : (chainL o).length = o.length := by unfold chainL; rw [chainF_len]; simp
abbrev intArr (l : List Int) : Array Value := (l.map (Value.int .i64)).toArray
theorem intArr_set (l : List Int) (k : Nat) (x : Int) : (intArr l).setIfInBounds k (.int .i64 x) = intArr (l.set k x) := by simp [intArr, List.map_set]
theorem made_ints (n : Nat) : madeCells #[.int .i64 0] n = intArr (List.replicate n 0) := by
  apply Array.ext
  · simp [madeCells, intArr]
  · intro i h1 h2
    simp [madeCells, intArr, Nat.mod_one]
set_option maxRecDepth 100000 in
set_option maxHeartbeats 2000000 in
theorem chain_any {o : List Int} (hn : o.length ≤ 16) (ho : ∀ x ∈ o, 0 ≤ x ∧ x < o.length) {a : Option Addr} {cap : Nat} {w : World} (ha : IsInts w a o) :
    Calls Try.prog 102 #[.slice a o.length cap] w fun e w' => ∃ v', e = .returned v' ∧ w'.ownsRow w.heap.size 3 1 v' o.length ((chainL o).map (Value.int .i64)) ∧ Below w.heap.size w w' := by
  obtain ⟨i0, hi0, hi1, hi2, hi3⟩ := info_parts infoI
  have hmk : ∀ w, (Instr.makeSlice 76 (.int .i64 (o.length : Int)) (.int .i64 (o.length : Int))).run Try.prog w = .ok (.slice (some ⟨w.heap.size, 0, none⟩) o.length o.length) (w.alloc (.cells (intArr (List.replicate o.length 0)) 3)) := by
    intro w
    have h := run_make (P := Try.prog) (w := w) 76 3 i0 _ Try.underlying76 hi0 hi1 .i64 .i64 (o.length : Int) (o.length : Int) (by omega) (by omega) (by rw [hi3]; omega) (by omega)
    rw [← made_ints]
    simpa [hi2, Value.cells] using h
  have hb1 : Below w.heap.size w (w.alloc (.cells (intArr (List.replicate o.length 0)) 3)) := (Below.refl _ w).alloc (Nat.le_refl _) _
  have q1 := World.alloc_heap_new w (.cells (intArr (List.replicate o.length 0)) 3)
  have HW := Lib.hid (And.intro hb1 q1)
  have HO := Lib.hid ho
  have HA := Lib.hid ha
  clear hb1 q1 hi0 hi1 hi2 hi3 ho ha
  go_enter Try.func102, Try.ntmps102
  go_wp2_with fail
  go_loopw [4, 12] (fun r i wr => ∃ k : Nat, k ≤ o.length ∧ i = .int .i64 k ∧ r = .int .i64 (lastF (-1) (o.take k)) ∧ Below w.heap.size w wr ∧ Hid (wr.heap[w.heap.size]? = some (.cells (intArr (chainF (List.replicate o.length 0) (-1) (o.take k))) 3 (0, 0)))) (fun _ i _ => o.length - (intOf i).toNat)
  case atStart => exact ⟨0, by omega, rfl, rfl, HW.out.1, HW.out.2⟩
  case round =>
    obtain ⟨k, hk, rfl, rfl, hB, HC⟩ := hrel
    by_cases hlt : k < o.length
    · obtain ⟨b, off, rfl, hc⟩ := HA.out k hlt
      have hc' := cell_stays hB hc
      have hx := HO.out _ (List.getElem_mem hlt)
      have e1 : gi o k = o[k] := by simp [gi, hlt]
      rw [e1] at hc'
      obtain ⟨m, hm⟩ := Int.eq_ofNat_of_zero_le hx.1
      have e2 : o.take (k + 1) = o.take k ++ [(m : Int)] := by rw [List.take_succ_eq_append_getElem hlt, hm]
      rw [hm] at hc' hx
      have hml : m < o.length := by omega
      have hl1 : m < (chainF (List.replicate o.length 0) (-1) (o.take k)).length := by rw [chainF_len]; simpa using hml
      have HS : Hid (chainF (List.replicate o.length 0) (-1) (o.take (k + 1)) = (chainF (List.replicate o.length 0) (-1) (o.take k)).set m (lastF (-1) (o.take k))) := by rw [Hid, e2, chainF_snoc]; rfl
      have HT : Hid (lastF (-1) (o.take (k + 1)) = (m : Int)) := by rw [Hid, e2, lastF_snoc]
      have ca : ∃ u, wr.cell? ⟨w.heap.size, m, none⟩ = some u := by
        rw [cell_of_heap HC.out]
        exact ⟨_, by simp [intArr, hl1]; rfl⟩
      obtain ⟨u, ca⟩ := ca
      have fa : wr.frozen? ⟨w.heap.size, m, none⟩ = false := frozen_of_heap HC.out
      have HB := Lib.hid hB
      have HM := Lib.hid (And.intro hm (And.intro e1 e2))
      clear hc hx e1 e2 hm hB hl1
      go_wp2_with fail
      go_roundw
      case rel => exact ⟨k + 1, by omega, by go_num, by rw [HT.out], HB.out.setCell (Nat.le_refl _) _, by rw [Hid, HS.out, ← intArr_set]; exact heap_setCell_at HC.out _⟩
      case measure => simp [intOf]; omega
    · obtain rfl : k = o.length := by omega
      rw [List.take_length] at HC
      have HB := Lib.hid hB
      clear hB
      go_wp2_with fail
      go_ret
      refine ⟨_, rfl, ⟨?_, .inr ⟨w.heap.size, o.length, _, rfl, Nat.le_refl _, HC.out, Nat.le_refl _, by simp [maxLen]; omega, ?_, ?_⟩⟩, HB.out⟩
      · simp [chainL_len]
      · simp [intArr, chainF_len]
      · have : (chainL o).length = o.length := chainL_len o
        rw [Nat.mul_one]
        show List.take o.length ((chainL o).map (Value.int .i64)) = _
        rw [List.take_of_length_le (by simp; omega)]
end Go.Proofs.Ytnfhlbmapfoifaa

