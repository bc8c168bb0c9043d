/- The states that can be reached, one loan after the other: plain Lean. -/
import Derived.Test.YtlhobddaojdnoaaPure
namespace Go.Proofs.Ytlhobddaojdnoaa

/-- What a state with so many wrong ones does to what is known. -/
def addAt (f : List Int → Option Int) (t : List Int) (m : Int) (s : List Int) : Option Int :=
  if s = t then some (match f t with | none => m | some x => if m < x then m else x) else f s
/-- The least number of each state of a list. -/
def minF (L : List (List Int × Int)) : List Int → Option Int := L.foldl (fun f p => addAt f p.1 p.2) (fun _ => none)
theorem minF_snoc (L : List (List Int × Int)) (p : List Int × Int) : minF (L ++ [p]) = addAt (minF L) p.1 p.2 := by simp [minF]
theorem minF_aux : ∀ (L : List (List Int × Int)) (f : List Int → Option Int) (t : List Int) (m : Int),
    L.foldl (fun f p => addAt f p.1 p.2) f t = some m ↔ ((f t = some m ∨ (t, m) ∈ L) ∧ (∀ x, f t = some x → m ≤ x) ∧ ∀ x, (t, x) ∈ L → m ≤ x)
  | [], f, t, m => by
    simp only [List.foldl_nil, List.not_mem_nil, or_false, false_imp_iff, implies_true, and_true]
    exact ⟨fun h => ⟨h, fun x hx => by rw [h] at hx; cases hx; exact Int.le_refl _⟩, fun h => h.1⟩
  | p :: L, f, t, m => by
    rw [List.foldl_cons, minF_aux L]
    by_cases ht : t = p.1
    · have e : addAt f p.1 p.2 t = some (match f t with | none => p.2 | some x => if p.2 < x then p.2 else x) := by unfold addAt; rw [if_pos ht, ht]
      have hp : ∀ x, (t, x) = p ↔ x = p.2 := fun x => by subst ht; exact ⟨fun h => by rw [← h], fun h => by rw [h]⟩
      cases hf : f t with
      | none =>
        rw [hf] at e
        simp only [e, Option.some.injEq, List.mem_cons, hp, reduceCtorEq, false_or, false_imp_iff, implies_true, true_and]
        constructor
        · rintro ⟨h1, h2, h3⟩
          exact ⟨h1.imp Eq.symm id, fun x hx => hx.elim (fun e => e ▸ h2 p.2 rfl) (h3 x)⟩
        · rintro ⟨h1, h2⟩
          exact ⟨h1.imp Eq.symm id, fun x hx => hx ▸ h2 p.2 (.inl rfl), fun x hx => h2 x (.inr hx)⟩
      | some y =>
        rw [hf] at e
        simp only [e, Option.some.injEq, List.mem_cons, hp]
        constructor
        · rintro ⟨h1, h2, h3⟩
          have h2' := h2 _ rfl
          refine ⟨?_, fun x hx => ?_, fun x hx => hx.elim (fun e => ?_) (h3 x)⟩
          · rcases h1 with h1 | h1
            · split at h1
              · exact .inr (.inl h1.symm)
              · exact .inl h1
            · exact .inr (.inr h1)
          · subst hx; split at h2' <;> omega
          · subst e; split at h2' <;> omega
        · rintro ⟨h1, h2, h3⟩
          have a1 := h2 y rfl
          have a2 := h3 p.2 (.inl rfl)
          refine ⟨?_, fun x hx => ?_, fun x hx => h3 x (.inr hx)⟩
          · rcases h1 with h1 | h1 | h1
            · left; split <;> omega
            · left; split <;> omega
            · exact .inr h1
          · subst hx; split <;> omega
    · have e : addAt f p.1 p.2 t = f t := by unfold addAt; rw [if_neg ht]
      have hp : ∀ x, (t, x) ≠ p := fun x h => ht (by rw [← h])
      simp only [e, List.mem_cons, hp, false_or]
theorem minF_some {L : List (List Int × Int)} {t : List Int} {m : Int} : minF L t = some m ↔ (t, m) ∈ L ∧ ∀ x, (t, x) ∈ L → m ≤ x := by
  unfold minF
  rw [minF_aux]
  simp
theorem minF_none_aux : ∀ (L : List (List Int × Int)) (f : List Int → Option Int) (t : List Int), L.foldl (fun f p => addAt f p.1 p.2) f t = none → f t = none ∧ ∀ x, (t, x) ∉ L
  | [], f, t, h => ⟨h, by simp⟩
  | p :: L, f, t, h => by
    rw [List.foldl_cons] at h
    obtain ⟨h1, h2⟩ := minF_none_aux L _ t h
    by_cases ht : t = p.1
    · have : addAt f p.1 p.2 t ≠ none := by unfold addAt; rw [if_pos ht]; intro h; cases h
      exact absurd h1 this
    · have e : addAt f p.1 p.2 t = f t := by unfold addAt; rw [if_neg ht]
      refine ⟨e ▸ h1, fun x hx => ?_⟩
      rcases List.mem_cons.1 hx with hx | hx
      · exact ht (by rw [← hx])
      · exact h2 x hx
theorem minF_none {L : List (List Int × Int)} {t : List Int} : minF L t = none ↔ ∀ x, (t, x) ∉ L := by
  constructor
  · intro h
    exact (minF_none_aux L _ t h).2
  · intro h
    cases hm : minF L t with
    | none => rfl
    | some m => exact absurd (minF_some.1 hm).1 (h m)
theorem minF_ex {L : List (List Int × Int)} {t : List Int} {x : Int} (h : (t, x) ∈ L) : ∃ m, minF L t = some m ∧ m ≤ x := by
  cases hm : minF L t with
  | none => exact absurd h (minF_none.1 hm x)
  | some m => exact ⟨m, rfl, (minF_some.1 hm).2 x h⟩
theorem minF_congr {L L' : List (List Int × Int)} (h1 : ∀ t m, (t, m) ∈ L → ∃ m', (t, m') ∈ L' ∧ m' ≤ m) (h2 : ∀ t m, (t, m) ∈ L' → ∃ m', (t, m') ∈ L ∧ m' ≤ m) : minF L = minF L' := by
  funext t
  cases hm : minF L t with
  | none =>
    symm
    rw [minF_none] at hm ⊢
    intro x hx
    obtain ⟨m', hm', _⟩ := h2 t x hx
    exact hm m' hm'
  | some m =>
    symm
    have h := minF_some.1 hm
    obtain ⟨m', hm', hle⟩ := h1 t m h.1
    obtain ⟨m'', hm'', hle'⟩ := h2 t m' hm'
    have := h.2 m'' hm''
    have hmm : m' = m := by omega
    subst hmm
    refine minF_some.2 ⟨hm', fun x hx => ?_⟩
    obtain ⟨y, hy, hyx⟩ := h2 t x hx
    have := h.2 y hy
    omega

/-! ### one loan more -/
theorem paths_snoc (c : Cab) (l : Ln) : ∀ (ls : List Ln) (a : List Int) (t : List Int) (bs : List Bool),
    (t, bs) ∈ paths c (ls ++ [l]) a ↔ ∃ s bs' b, (s, bs') ∈ paths c ls a ∧ (t, b) ∈ step c s l ∧ bs = bs' ++ [b]
  | [], a, t, bs => by
    simp only [List.nil_append, paths, List.mem_flatMap, List.mem_map, List.mem_singleton, Prod.mk.injEq]
    constructor
    · rintro ⟨x, hx, y, ⟨rfl⟩, rfl, rfl⟩
      exact ⟨a, [], x.2, ⟨rfl, rfl⟩, hx, rfl⟩
    · rintro ⟨s, bs', b, ⟨rfl, rfl⟩, hs, rfl⟩
      exact ⟨(t, b), hs, (t, []), rfl, rfl, rfl⟩
  | l0 :: ls, a, t, bs => by
    simp only [List.cons_append, paths, List.mem_flatMap, List.mem_map]
    constructor
    · rintro ⟨x, hx, y, hy, he⟩
      obtain ⟨s, bs', b, h1, h2, h3⟩ := (paths_snoc c l ls x.1 y.1 y.2).1 hy
      cases he
      exact ⟨s, x.2 :: bs', b, ⟨x, hx, (s, bs'), h1, rfl⟩, h2, by rw [h3]; rfl⟩
    · rintro ⟨s, bs', b, ⟨x, hx, y, hy, he⟩, h2, rfl⟩
      cases he
      exact ⟨x, hx, (t, y.2 ++ [b]), (paths_snoc c l ls x.1 t (y.2 ++ [b])).2 ⟨y.1, y.2, b, hy, h2, rfl⟩, rfl⟩
theorem paths_len (c : Cab) : ∀ (ls : List Ln) (a t : List Int) (bs : List Bool), (t, bs) ∈ paths c ls a → bs.length = ls.length
  | [], a, t, bs, h => by simp [paths] at h; simp [h.2]
  | l :: ls, a, t, bs, h => by
    simp only [paths, List.mem_flatMap, List.mem_map] at h
    obtain ⟨x, _, y, hy, he⟩ := h
    cases he
    simp [paths_len c ls x.1 y.1 y.2 hy]
theorem okAll_snoc (r : Rule) (l : Ln) (b : Bool) : ∀ (i : Nat) (ls : List Ln) (bs : List Bool), bs.length = ls.length → okAll r i (ls ++ [l]) (bs ++ [b]) = (okAll r i ls bs && r (i + ls.length) l b)
  | i, [], [], _ => by simp [okAll]
  | i, x :: ls, y :: bs, h => by
    have h' : bs.length = ls.length := by simpa using h
    simp only [List.cons_append, okAll, okAll_snoc r l b (i + 1) ls bs h', List.length_cons, Bool.and_assoc]
    rw [show i + 1 + ls.length = i + (ls.length + 1) by omega]
theorem wrongs_snoc (bs : List Bool) (b : Bool) : wrongs (bs ++ [b]) = wrongs bs + if b then 1 else 0 := by
  unfold wrongs; rw [List.countP_append]; cases b <;> simp

/-- The states that can be reached by some loans, each with how many were put back wrong at least. -/
def reachF (c : Cab) (r : Rule) (W : Int) (ls : List Ln) : List Int → Option Int := minF ((truthsBy c r ls W).map fun x => (x.1, (wrongs x.2 : Int)))
/-- What a state can come to by a loan more. -/
def contrib (c : Cab) (r : Rule) (W : Int) (i : Nat) (l : Ln) (p : List Int × Int) : List (List Int × Int) :=
  (step c p.1 l).filterMap fun x => if p.2 + (if x.2 then 1 else 0) ≤ W ∧ r i l x.2 = true then some (x.1, p.2 + (if x.2 then 1 else 0)) else none

theorem reachF_mem {c : Cab} {r : Rule} {W : Int} {ls : List Ln} {t : List Int} {m : Int} : (t, m) ∈ ((truthsBy c r ls W).map fun x => (x.1, (wrongs x.2 : Int))) ↔
    ∃ bs, (t, bs) ∈ paths c ls c.homes ∧ okAll r 0 ls bs = true ∧ (wrongs bs : Int) = m ∧ m ≤ W := by
  simp only [truthsBy, List.mem_map, List.mem_filter, Bool.and_eq_true, decide_eq_true_eq, Prod.mk.injEq]
  constructor
  · rintro ⟨x, ⟨h1, h2, h3⟩, rfl, rfl⟩
    exact ⟨x.2, h1, h2, rfl, h3⟩
  · rintro ⟨bs, h1, h2, rfl, h3⟩
    exact ⟨(t, bs), ⟨h1, h2, h3⟩, rfl, rfl⟩

theorem reach_step (c : Cab) (r : Rule) (W : Int) (ls : List Ln) (l : Ln) (M : List (List Int × Int)) (hM : ∀ t n, (t, n) ∈ M ↔ reachF c r W ls t = some n) :
    reachF c r W (ls ++ [l]) = minF (M.flatMap (contrib c r W ls.length l)) := by
  have mem2 : ∀ t m, (t, m) ∈ M.flatMap (contrib c r W ls.length l) ↔ ∃ s n b, (s, n) ∈ M ∧ (t, b) ∈ step c s l ∧ m = n + (if b then 1 else 0) ∧ m ≤ W ∧ r ls.length l b = true := by
    intro t m
    simp only [List.mem_flatMap, contrib, List.mem_filterMap]
    constructor
    · rintro ⟨p, hp, x, hx, he⟩
      by_cases hc : p.2 + (if x.2 then 1 else 0) ≤ W ∧ r ls.length l x.2 = true
      · rw [if_pos hc, Option.some.injEq, Prod.mk.injEq] at he
        obtain ⟨rfl, rfl⟩ := he
        exact ⟨p.1, p.2, x.2, hp, hx, rfl, hc.1, hc.2⟩
      · rw [if_neg hc] at he
        exact absurd he (by simp)
    · rintro ⟨s, n, b, h1, h2, rfl, h3, h4⟩
      exact ⟨(s, n), h1, (t, b), h2, by rw [if_pos ⟨h3, h4⟩]⟩
  refine minF_congr (fun t m h => ?_) (fun t m h => ?_)
  · obtain ⟨bs, h1, h2, rfl, h3⟩ := reachF_mem.1 h
    obtain ⟨s, bs', b, h4, h5, rfl⟩ := (paths_snoc c l ls _ t bs).1 h1
    have hlen := paths_len c ls _ _ _ h4
    rw [okAll_snoc r l b 0 ls bs' hlen, Bool.and_eq_true] at h2
    rw [wrongs_snoc] at h3 ⊢
    have hs : (s, (wrongs bs' : Int)) ∈ ((truthsBy c r ls W).map fun x => (x.1, (wrongs x.2 : Int))) := reachF_mem.2 ⟨bs', h4, h2.1, rfl, by cases b <;> simp at h3 <;> omega⟩
    obtain ⟨n, hn, hle⟩ := minF_ex hs
    refine ⟨n + if b then 1 else 0, (mem2 _ _).2 ⟨s, n, b, (hM s n).2 hn, h5, rfl, ?_, by simpa using h2.2⟩, ?_⟩
    · cases b <;> simp at h3 ⊢ <;> omega
    · cases b <;> simp <;> omega
  · obtain ⟨s, n, b, h1, h2, rfl, h3, h4⟩ := (mem2 t m).1 h
    obtain ⟨bs, h5, h6, h7, h8⟩ := reachF_mem.1 (minF_some.1 ((hM s n).1 h1)).1
    refine ⟨n + if b then 1 else 0, reachF_mem.2 ⟨bs ++ [b], (paths_snoc c l ls _ t _).2 ⟨s, bs, b, h5, h2, rfl⟩, ?_, ?_, h3⟩, Int.le_refl _⟩
    · rw [okAll_snoc r l b 0 ls bs (paths_len c ls _ _ _ h5), h6]; simpa using h4
    · rw [wrongs_snoc]; cases b <;> simp <;> omega

theorem reach_nil (c : Cab) (r : Rule) (W : Int) (hW : 0 ≤ W) : reachF c r W [] = minF [(c.homes, 0)] := by
  have : ((truthsBy c r [] W).map fun x => (x.1, (wrongs x.2 : Int))) = [(c.homes, 0)] := by
    simp [truthsBy, paths, okAll, wrongs, hW]
  unfold reachF
  rw [this]

end Go.Proofs.Ytlhobddaojdnoaa
