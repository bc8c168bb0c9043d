/- Chains, plain laws: the way of an order; who comes from whom. CopyChain: whether a list has all cards. -/
import Derived.Test.YtnfhlbmapfoifaaR29
import Derived.Test.YtnfhlbmapfoifaaR16
import Derived.Test.YtnfhlbmapfoifaaR25
import Derived.Test.YtnfhlbmapfoifaaOrd
namespace Go.Proofs.Ytnfhlbmapfoifaa
open Go.RowKit
set_option linter.unusedVariables false
set_option linter.unusedSimpArgs false

theorem gi_app_l {l m : List Int} {k : Nat} (h : k < l.length) : gi (l ++ m) k = gi l k := by simp [gi, List.getElem?_append_left h]
theorem gi_cons_s (x : Int) (l : List Int) (k : Nat) : gi (x :: l) (k + 1) = gi l k := by simp [gi]
theorem gi_cons_z (x : Int) (l : List Int) : gi (x :: l) 0 = x := by simp [gi]
theorem onW_mem {p : Prs} : ∀ (d : Nat) (pre x : List Int), x ∈ onW p d pre ↔ ∃ s, x = pre ++ s ∧ s.length = d ∧ (∀ j, j < d → -1 ≤ gi s j ∧ gi s j < p.cards.length ∧ gi s j ≠ (pre.length : Int) + j) ∧ isWayB p x = true
  | 0, pre, x => by
    rw [onW_zero]
    constructor
    · intro h
      split at h
      · rename_i hw
        simp at h
        subst h
        exact ⟨[], by simp, rfl, fun j hj => by omega, hw⟩
      · simp at h
    · rintro ⟨s, rfl, hs, _, hw⟩
      have : s = [] := List.eq_nil_of_length_eq_zero hs
      subst this
      rw [List.append_nil] at hw ⊢
      rw [if_pos hw]
      simp
  | d + 1, pre, x => by
    rw [onW_succ, List.mem_flatMap]
    constructor
    · rintro ⟨f, hf, h⟩
      unfold onF at h
      split at h
      · simp at h
      · rename_i hp
        obtain ⟨s, rfl, hs, h1, h4⟩ := (onW_mem d _ _).1 h
        have hf' : -1 ≤ f ∧ f < p.cards.length := by
          simp only [froms, List.mem_map, List.mem_range] at hf
          obtain ⟨k, hk, rfl⟩ := hf
          omega
        refine ⟨f :: s, by simp, by simp [hs], fun j hj => ?_, h4⟩
        cases j with
        | zero => rw [gi_cons_z]; exact ⟨hf'.1, hf'.2, by simpa using hp⟩
        | succ j =>
          rw [gi_cons_s]
          have := h1 j (by omega)
          simp at this
          refine ⟨this.1, this.2.1, ?_⟩
          have h3 := this.2.2
          omega
    · rintro ⟨s, rfl, hs, h1, h4⟩
      cases s with
      | nil => simp at hs
      | cons f s =>
        have h0 := h1 0 (by omega)
        rw [gi_cons_z] at h0
        obtain ⟨k, hk⟩ := Int.eq_ofNat_of_zero_le (show 0 ≤ f + 1 by omega)
        refine ⟨f, ?_, ?_⟩
        · simp only [froms, List.mem_map, List.mem_range]
          exact ⟨k, by omega, by omega⟩
        · unfold onF
          rw [if_neg (by have := h0.2.2; omega)]
          refine (onW_mem d _ _).2 ⟨s, by simp, by simpa using hs, fun j hj => ?_, h4⟩
          have := h1 (j + 1) (by omega)
          rw [gi_cons_s] at this
          simp
          refine ⟨this.1, this.2.1, ?_⟩
          have h3 := this.2.2
          omega
theorem ways_iff {p : Prs} {x : List Int} : x ∈ waysL p ↔ x.length = p.cards.length ∧ (∀ j, j < p.cards.length → -1 ≤ gi x j ∧ gi x j < p.cards.length ∧ gi x j ≠ (j : Int)) ∧ isWayB p x = true := by
  unfold waysL
  rw [onW_mem]
  constructor
  · rintro ⟨s, rfl, h1, h2, h3⟩
    refine ⟨by simpa using h1, fun j hj => ?_, h3⟩
    have := h2 j hj
    simpa using this
  · rintro ⟨h1, h2, h3⟩
    exact ⟨x, by simp, h1, fun j hj => by simpa using h2 j hj, h3⟩
theorem gi_set {l : List Int} {i j : Nat} {x : Int} (hj : j < l.length) : gi (l.set i x) j = if i = j then x else gi l j := by
  unfold gi
  simp only [List.getD_eq_getElem?_getD, List.getElem?_set]
  split
  · rename_i e; subst e; simp [hj]
  · rfl
theorem lastF_take' {o : List Int} {m : Nat} (hm : m ≤ o.length) : lastF (-1) (o.take m) = if m = 0 then -1 else gi o (m - 1) := by
  cases m with
  | zero => rfl
  | succ m =>
    rw [List.take_succ_eq_append_getElem (by omega), lastF_snoc, if_neg (by omega)]
    simp [gi, show m < o.length by omega]
theorem chain_gi {n : Nat} {o : List Int} (h : IsPerm n o) {k : Nat} (hk : k < n) : gi (chainL o) (gi o k).toNat = if k = 0 then -1 else gi o (k - 1) := by
  have key : ∀ m, m ≤ n → ∀ k, k < m → gi (chainF (List.replicate o.length 0) (-1) (o.take m)) (gi o k).toNat = if k = 0 then -1 else gi o (k - 1) := by
    intro m
    induction m with
    | zero => intro _ k hk; omega
    | succ m ih =>
      intro hm k hk
      have hml : m < o.length := by rw [h.1]; omega
      have hkn : k < n := by omega
      have r1 := perm_rng h hkn
      have r2 := perm_rng h (show m < n by omega)
      rw [List.take_succ_eq_append_getElem hml, chainF_snoc]
      have e : o[m] = gi o m := by simp [gi, hml]
      rw [e, gi_set (by rw [chainF_len]; simp; rw [h.1]; omega)]
      by_cases hkm : k = m
      · subst hkm
        rw [if_pos rfl, lastF_take' (by omega)]
      · rw [if_neg (fun e2 => perm_ne h hkn (show m < n by omega) hkm (by omega))]
        exact ih (by omega) k (by omega)
  have := key n (Nat.le_refl _) k hk
  rw [List.take_of_length_le (by rw [h.1]; exact Nat.le_refl _)] at this
  exact this
theorem count_one {α : Type} {P : α → Bool} : ∀ l : List α, l.Nodup → (∀ x ∈ l, ∀ y ∈ l, P x = true → P y = true → x = y) → l.countP P ≤ 1
  | [], _, _ => by simp
  | k :: r, hl, h => by
    rw [List.nodup_cons] at hl
    simp only [List.countP_cons]
    have ih := count_one r hl.2 (fun x hx y hy => h x (by simp [hx]) y (by simp [hy]))
    cases hk : P k
    · simpa using ih
    · have hz : r.countP P = 0 := by
        rw [List.countP_eq_zero]
        intro q hq hqb
        have := h k (by simp) q (by simp [hq]) hk hqb
        subst this
        exact hl.1 hq
      rw [hz]; simp
theorem as_range (l : List Int) : l = (List.range l.length).map fun k => gi l k := by
  refine List.ext_getElem (by simp) (fun i h1 h2 => ?_)
  simp [gi, h1]
theorem orig_range (l : List Int) : origN l = (List.range l.length).countP fun k => decide (gi l k = -1) := by
  conv => lhs; rw [as_range l]
  unfold origN
  rw [List.countP_map]
  rfl
/-- The way of an order has one original at most. -/
theorem chain_orig {n : Nat} {o : List Int} (h : IsPerm n o) : origN (chainL o) ≤ 1 := by
  rw [orig_range]
  have hlen : (chainL o).length = n := by rw [chainL_len, h.1]
  rw [hlen]
  have key : ∀ c, c < n → gi (chainL o) c = -1 → (c : Int) = gi o 0 := fun c hc e => by
    obtain ⟨k, hk, ek⟩ := perm_has h (show (0 : Int) ≤ (c : Int) by omega) (by omega)
    have h1 := chain_gi h hk
    rw [ek] at h1
    have h2 : ((c : Int)).toNat = c := rfl
    rw [h2, e] at h1
    by_cases h0 : k = 0
    · subst h0; exact ek.symm
    · rw [if_neg h0] at h1
      have := (perm_rng h (show k - 1 < n by omega)).1
      omega
  refine count_one _ List.nodup_range (fun x hx y hy h1 h2 => ?_)
  have hx' : x < n := by simpa using hx
  have hy' : y < n := by simpa using hy
  have := key x hx' (by simpa using h1)
  have := key y hy' (by simpa using h2)
  omega
theorem chain_way {p : Prs} {o : List Int} (h : o ∈ ordersL p) : chainL o ∈ waysL p := by
  obtain ⟨hp, hw⟩ := orders_iff.1 h
  refine ways_iff.2 ⟨by rw [chainL_len, hp.1], fun j hj => ?_, hw⟩
  obtain ⟨k, hk, ek⟩ := perm_has hp (show (0 : Int) ≤ (j : Int) by omega) (by omega)
  have h1 := chain_gi hp hk
  rw [ek] at h1
  have h2 : ((j : Int)).toNat = j := rfl
  rw [h2] at h1
  rw [h1]
  by_cases h0 : k = 0
  · rw [if_pos h0]; omega
  · rw [if_neg h0]
    have hr := perm_rng hp (show k - 1 < p.cards.length by omega)
    have hne := perm_ne hp (show k - 1 < p.cards.length by omega) hk (by omega)
    rw [ek] at hne
    exact ⟨by omega, hr.2, hne⟩
theorem never_round {x : List Int} : (∀ c, c < x.length → 0 ≤ gi x c ∧ gi x c < x.length) → ∀ m (c : Int), 0 ≤ c → c < x.length → 0 ≤ upW x m c ∧ upW x m c < x.length
  | h, 0, c, h0, h1 => ⟨h0, h1⟩
  | h, m + 1, c, h0, h1 => by
    unfold upW
    rw [if_neg (by omega)]
    have := h c.toNat (by omega)
    exact never_round h m _ this.1 this.2
/-- A way of one card or more has an original. -/
theorem way_orig {p : Prs} {x : List Int} (h : x ∈ waysL p) (hn : 0 < p.cards.length) : 1 ≤ origN x := by
  obtain ⟨h1, h2, h3⟩ := ways_iff.1 h
  apply Classical.byContradiction
  intro h0
  have hz : origN x = 0 := by omega
  rw [orig_range, List.countP_eq_zero] at hz
  have hr := never_round (x := x) (fun c hc => by
    have := h2 c (by omega)
    have h4 := hz c (by simpa using hc)
    simp at h4
    omega)
  have hr0 := hr x.length ((0 : Nat) : Int) (by omega) (by omega)
  have : roundB x = true := roundB_true (c := 0) (by omega) (by omega)
  unfold isWayB at h3
  rw [this] at h3
  simp at h3
theorem foldl_min_mem : ∀ (l : List (List Int)) (m : Nat), ∀ x ∈ l, l.foldl (fun m x => min m (origN x)) m ≤ origN x
  | [], _, x, h => by cases h
  | y :: r, m, x, h => by
    rcases List.mem_cons.1 h with e | e
    · subst e
      exact Nat.le_trans (foldl_min_le r _) (Nat.min_le_right _ _)
    · exact foldl_min_mem r _ x e
theorem fewest_le {p : Prs} {x : List Int} (h : x ∈ waysL p) : origN (fewestW p) ≤ origN x := by
  cases e : waysL p with
  | nil => rw [e] at h; cases h
  | cons f t =>
    have hf : fewestW p = leastW f t := by unfold fewestW; rw [e]; rfl
    rw [hf, least_orig]
    rw [e] at h
    rcases List.mem_cons.1 h with h | h
    · subst h; exact foldl_min_le _ _
    · exact foldl_min_mem _ _ _ h
theorem least_mem : ∀ (l : List (List Int)) (f : List Int), leastW f l = f ∨ leastW f l ∈ l
  | [], f => .inl rfl
  | x :: r, f => by
    have e : leastW f (x :: r) = leastW (if origN x < origN f then x else f) r := rfl
    rw [e]
    split
    · rcases least_mem r x with h | h
      · exact .inr (by rw [h]; simp)
      · exact .inr (by simp [h])
    · rcases least_mem r f with h | h
      · exact .inl h
      · exact .inr (by simp [h])
theorem fewest_mem {p : Prs} (hv : p.valid = true) : fewestW p ∈ waysL p := by
  cases e : waysL p with
  | nil => exact (ways_ne hv e).elim
  | cons f t =>
    have hf : fewestW p = leastW f t := by unfold fewestW; rw [e]; rfl
    rw [hf]
    rcases least_mem t f with h | h
    · rw [h]; simp
    · simp [h]
theorem chain_comesF {n : Nat} {o : List Int} (h : IsPerm n o) {m : Nat} (hm : m < n) : ∀ (j f : Nat), j < n → j ≤ f → comesF (chainL o) (gi o m) f (if j = 0 then -1 else gi o (j - 1)) = decide (m < j)
  | 0, f, _, _ => by
    rw [if_pos rfl, comesF_none]
    simp
  | j + 1, 0, _, hf => by omega
  | j + 1, f + 1, hj, hf => by
    rw [if_neg (by omega), show j + 1 - 1 = j by omega]
    have r0 := perm_rng h (show j < n by omega)
    by_cases e : j = m
    · subst e
      rw [comesF_hit _ _ (by omega)]
      simp
    · rw [comesF_on _ _ (by omega) (perm_ne h (by omega) hm e), chain_gi h (by omega), chain_comesF h hm j f (by omega) (by omega)]
      have : (m < j) ↔ (m < j + 1) := by omega
      simp [this]
theorem chain_comes {n : Nat} {o : List Int} (h : IsPerm n o) {i k : Nat} (hi : i < n) (hk : k < n) : comesB (chainL o) i k = befB k i o := by
  obtain ⟨j, hj, ej⟩ := perm_has h (show (0 : Int) ≤ (i : Int) by omega) (by omega)
  obtain ⟨m, hm, em⟩ := perm_has h (show (0 : Int) ≤ (k : Int) by omega) (by omega)
  unfold comesB befB
  have e1 : gi (chainL o) i = if j = 0 then -1 else gi o (j - 1) := by
    have := chain_gi h hj
    rw [ej] at this
    exact this
  rw [e1, ← em, chain_comesF h hm j _ hj (by rw [chainL_len, h.1]; omega), perm_index h hm, ← ej, perm_index h hj]
  simp
/-- What is told of who comes from whom, by the orders. -/
theorem from_bef {p : Prs} (hv : p.valid = true) (hne : ordersL p ≠ []) {i k : Nat} (hi : i < p.cards.length) (hk : k < p.cards.length) (hik : i ≠ k) :
    ∃ c : Int, fromE p i k = (c, 0) ∧ (c = 0 → befL (ordersL p) k i = []) ∧ (c = 2 → befL (ordersL p) k i = ordersL p) ∧ 0 ≤ c ∧ c ≤ 2 := by
  have h1 : p.card (i : Int) = true := by unfold Prs.card inR; simp; omega
  have h2 : p.card (k : Int) = true := by unfold Prs.card inR; simp; omega
  have h3 : openE p (p.card (i : Int) && p.card (k : Int) && !decide ((i : Int) = (k : Int))) = 0 := by
    rw [h1, h2]
    have : ((i : Int) = (k : Int)) = False := by simp; omega
    simp [openE, hv, this]
  have hmem : ∀ o ∈ ordersL p, befB k i o ∈ fromL (origN (fewestW p)) i k (waysL p) := fun o ho => by
    have hw := chain_way ho
    have hp := (orders_iff.1 ho).1
    unfold fromL
    rw [List.mem_map]
    refine ⟨chainL o, ?_, chain_comes hp hi hk⟩
    rw [List.mem_filter]
    refine ⟨hw, ?_⟩
    have a1 := fewest_le hw
    have a2 := way_orig (fewest_mem hv) (by omega)
    have a3 := chain_orig hp
    simp
    omega
  refine ⟨frmN (fromL (origN (fewestW p)) i k (waysL p)), ?_, fun h0 => ?_, fun h0 => ?_, ?_⟩
  · unfold fromE
    simp only
    rw [if_pos h3]
    rfl
  · unfold befL
    rw [List.filter_eq_nil_iff]
    intro o ho hb
    have hm := hmem o ho
    rw [hb] at hm
    unfold frmN at h0
    split at h0
    · omega
    · split at h0
      · omega
      · rename_i ha
        exact ha (List.any_eq_true.2 ⟨true, hm, rfl⟩)
  · unfold befL
    rw [List.filter_eq_self]
    intro o ho
    have hm := hmem o ho
    unfold frmN at h0
    split at h0
    · rename_i ha
      have := List.all_eq_true.1 ha _ hm
      exact this
    · split at h0 <;> omega
  · unfold frmN
    split
    · omega
    · split <;> omega
theorem few_one {p : Prs} (hne : ordersL p ≠ []) : origN (fewestW p) ≤ 1 := by
  cases e : ordersL p with
  | nil => exact (hne e).elim
  | cons o r =>
    have ho : o ∈ ordersL p := by rw [e]; simp
    exact Nat.le_trans (fewest_le (chain_way ho)) (chain_orig (orders_iff.1 ho).1)
theorem perm_of {n : Nat} {a b : List Int} (h : a.Perm b) (hb : IsPerm n b) : IsPerm n a :=
  ⟨by rw [h.length_eq]; exact hb.1, h.nodup_iff.2 hb.2.1, fun x hx => hb.2.2 x (h.mem_iff.1 hx)⟩
theorem perm_pick {n : Nat} {own free : List Int} {k : Nat} (hk : k < free.length) (h : IsPerm n (own ++ free)) : IsPerm n ((own ++ [gi free k]) ++ free.eraseIdx k) := by
  refine perm_of ?_ h
  rw [List.append_assoc]
  refine List.Perm.append_left own ?_
  have e : gi free k = free[k] := by simp [gi, hk]
  rw [e]
  rw [List.eraseIdx_eq_take_drop_succ]
  have h : free = free.take k ++ free[k] :: free.drop (k + 1) := by
    conv => lhs; rw [← List.take_append_drop k free, List.drop_eq_getElem_cons hk]
  have h2 := (List.perm_middle (a := free[k]) (l₁ := free.take k) (l₂ := free.drop (k + 1))).symm
  rw [← h] at h2
  exact h2
theorem perm_range (n : Nat) : IsPerm n ((List.range n).map fun (k : Nat) => (k : Int)) := by
  refine ⟨by simp, ?_, fun x hx => ?_⟩
  · unfold List.Nodup
    rw [List.pairwise_map]
    exact List.nodup_range.imp (fun h e => h (by omega))
  · rw [List.mem_map] at hx
    obtain ⟨k, hk, rfl⟩ := hx
    have : k < n := by simpa using hk
    omega
end Go.Proofs.Ytnfhlbmapfoifaa

namespace Go.Proofs.Ytnfhlbmapfoifaa
open Go.RowKit
set_option linter.unusedVariables false
set_option linter.unusedSimpArgs false

theorem shl_one {f : Nat} (h : f ≤ 5) : IntKind.i64.wrap (2 ^ f) = ((2 ^ f : Nat) : Int) := by
  rcases (show f = 0 ∨ f = 1 ∨ f = 2 ∨ f = 3 ∨ f = 4 ∨ f = 5 by omega) with e | e | e | e | e | e <;> subst e <;> decide
theorem bits_bit (l : List Nat) : ∀ i, (bitsOf l).testBit i = decide (i ∈ l) := by
  have key : ∀ (l : List Nat) (s i : Nat), (l.foldl (fun s n => s ||| 2 ^ n) s).testBit i = (s.testBit i || decide (i ∈ l)) := by
    intro l
    induction l with
    | nil => intro s i; simp
    | cons x r ih =>
      intro s i
      rw [List.foldl_cons, ih, Nat.testBit_or, Nat.testBit_two_pow]
      by_cases h : x = i
      · subst h; simp
      · have h2 : i ≠ x := fun e => h e.symm
        simp [h, h2]
  intro i
  unfold bitsOf
  rw [key]
  simp
theorem perm_bits {n : Nat} {o : List Int} (h : IsPerm n o) : bitsOf (o.map Int.toNat) = 2 ^ n - 1 := by
  refine Nat.eq_of_testBit_eq (fun i => ?_)
  rw [bits_bit, Nat.testBit_two_pow_sub_one]
  congr 1
  apply propext
  rw [List.mem_map]
  constructor
  · rintro ⟨x, hx, rfl⟩
    have := h.2.2 x hx
    omega
  · intro hi
    obtain ⟨k, hk, e⟩ := perm_has h (show (0 : Int) ≤ (i : Int) by omega) (by omega)
    have hk' : k < o.length := by rw [h.1]; exact hk
    refine ⟨(i : Int), ?_, rfl⟩
    rw [← e]
    simp [gi, hk']
set_option maxHeartbeats 4000000 in
theorem order25 {n : Nat} (hn : n ≤ 5) {o : List Int} (h : IsPerm n o) {a : Option Addr} {cap nb : Nat} {w : World} (ha : IsInts w a o) (hc : w.heap[nb]? = some (.cells #[.int .i64 n] 3 (0, 0))) :
    Calls Try.prog 25 #[.slice a n cap, .pointer (some ⟨nb, 0, none⟩)] w fun e w' => e = .returned (.bool true) ∧ w = w' := by
  have c0 : w.cell? ⟨nb, 0, none⟩ = some (.int .i64 n) := by rw [cell_of_heap hc]; rfl
  have HP := Lib.hid (And.intro h (And.intro ha (perm_bits h)))
  have hsh := shl_one hn
  clear h ha hc
  go_enter Try.func25, Try.ntmps25
  go_wp2_with fail
  go_loop [4, 9] (fun s i => ∃ k z : Nat, k ≤ n ∧ i = .int .i64 k ∧ s = .int .i64 z ∧ z < 32 ∧ Hid (z = bitsOf ((o.take k).map Int.toNat))) (fun _ i => n - (intOf i).toNat)
  case atStart => exact ⟨0, 0, by omega, rfl, rfl, by omega, rfl⟩
  case round =>
    obtain ⟨k, z, hk, rfl, rfl, hz, HZ⟩ := hrel
    by_cases hlt : k < n
    · obtain ⟨b, off, rfl, hcell⟩ := HP.out.2.1 k (by rw [HP.out.1.1]; exact hlt)
      have hr := perm_rng HP.out.1 hlt
      obtain ⟨f, hf⟩ := Int.eq_ofNat_of_zero_le hr.1
      have hfn : f < n := by omega
      have HS : Hid (bitsOf ((o.take (k + 1)).map Int.toNat) = bitsOf ((o.take k).map Int.toNat) ||| 2 ^ f) := by
        have hkl : k < o.length := by rw [HP.out.1.1]; exact hlt
        have e : o[k] = (f : Int) := by rw [← hf]; simp [gi, hkl]
        rw [Hid, List.take_succ_eq_append_getElem hkl, List.map_append, e]
        exact bitsOf_snoc _ _
      rw [hf] at hcell
      have h32 : (2 : Nat) ^ f < 32 := Nat.pow_lt_pow_right (m := f) (n := 5) (by decide) (by omega)
      have hsf := shl_one (show f ≤ 5 by omega)
      have hor := or_i64 z (2 ^ f) (by omega) (by omega)
      have hlt32 : z ||| 2 ^ f < 32 := Nat.or_lt_two_pow (n := 5) hz h32
      clear hr hf
      revert hsf hor h32 hlt32 HS
      generalize 2 ^ f = y
      intro HS h32 hsf hor hlt32
      go_wp2_with fail
      go_round
      case rel => exact ⟨k + 1, z ||| y, by omega, by go_num, rfl, hlt32, by rw [Hid, HS.out, HZ.out]⟩
      case measure => simp [intOf]; omega
    · obtain rfl : k = n := by omega
      have HY : Hid (z = 2 ^ k - 1) := by rw [Hid, HZ.out, ← HP.out.2.2, List.take_of_length_le (by rw [HP.out.1.1]; exact Nat.le_refl _)]
      go_wp2_with fail
      go_ret
      refine ⟨ret_bool ?_, rfl⟩
      rw [HY.out]
      rcases (show k = 0 ∨ k = 1 ∨ k = 2 ∨ k = 3 ∨ k = 4 ∨ k = 5 by omega) with e | e | e | e | e | e <;> rw [e] <;> simp [wrap64]
end Go.Proofs.Ytnfhlbmapfoifaa

