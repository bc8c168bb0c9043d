/- The plain law of LendTurned: cards, slots and persons numbered otherwise. The plain law of LendTurned: what is told is the same but for the numbers. The plain law of LendTurned: as many states are left. The cabinet that is numbered otherwise. The law LendTurned: pairs of sets. -/
import Derived.Test.YtlhobddaojdnoaaL5
import Derived.Test.YtlhobddaojdnoaaPure4
namespace Go.Proofs.Ytlhobddaojdnoaa

/-- Other numbers, both ways. -/
structure Turn (c x : Cab) (f f' : Nat → Nat) (sl sl' pe pe' : Int → Int) : Prop where
  cv : c.valid = true
  xv : x.valid = true
  slots : x.slots = c.slots
  wrong : x.wrong = c.wrong
  n : x.homes.length = c.homes.length
  fin : ∀ i, i < c.homes.length → f i < c.homes.length ∧ f' (f i) = i
  fin' : ∀ i, i < c.homes.length → f' i < c.homes.length ∧ f (f' i) = i
  out : sl (-1) = -1
  out' : sl' (-1) = -1
  sin : ∀ s, 0 ≤ s → s < c.slots → 0 ≤ sl s ∧ sl s < c.slots ∧ sl' (sl s) = s
  sin' : ∀ s, 0 ≤ s → s < c.slots → 0 ≤ sl' s ∧ sl' s < c.slots ∧ sl (sl' s) = s
  pin : ∀ p, 0 ≤ p → p ≤ 7 → 0 ≤ pe p ∧ pe p ≤ 7 ∧ pe' (pe p) = p
  pin' : ∀ p, 0 ≤ p → p ≤ 7 → 0 ≤ pe' p ∧ pe' p ≤ 7 ∧ pe (pe' p) = p
  home : ∀ i, i < c.homes.length → gi x.homes (f i) = sl (gi c.homes i)
  len : x.loans.length = c.loans.length
  kind : ∀ i, i < c.loans.length → (gl x.loans i).kind = (gl c.loans i).kind
  move : ∀ i, i < c.loans.length → (gl c.loans i).kind ≠ 2 → (gl x.loans i).card = (f (gl c.loans i).card.toNat : Int) ∧ (gl x.loans i).person = pe (gl c.loans i).person
  look : ∀ i, i < c.loans.length → (gl c.loans i).kind = 2 → (gl x.loans i).slot = sl (gl c.loans i).slot ∧ (gl x.loans i).card = (if (gl c.loans i).card = -1 then -1 else (f (gl c.loans i).card.toNat : Int))
def turnSt (n : Nat) (f' : Nat → Nat) (sl : Int → Int) (t : List Int) : List Int := (List.range n).map fun j => sl (gi t (f' j))
theorem turnSt_len (n : Nat) (f' : Nat → Nat) (sl : Int → Int) (t : List Int) : (turnSt n f' sl t).length = n := by simp [turnSt]
theorem turnSt_gi {n : Nat} {f' : Nat → Nat} {sl : Int → Int} {t : List Int} {j : Nat} (h : j < n) : gi (turnSt n f' sl t) j = sl (gi t (f' j)) := by
  simp [turnSt, gi, h]
theorem ext_gi {l l' : List Int} (h : l.length = l'.length) (he : ∀ i, i < l.length → gi l i = gi l' i) : l = l' := by
  apply List.ext_getElem h
  intro i h1 h2
  have := he i h1
  simpa [gi, h1, h2] using this

section
variable {c x : Cab} {f f' : Nat → Nat} {sl sl' pe pe' : Int → Int}
/-- A loan of a valid cabinet. -/
theorem loan_ok {c : Cab} (hv : c.valid = true) {i : Nat} (hi : i < c.loans.length) : c.loanOk (gl c.loans i) = true := by
  simp only [Cab.valid, Bool.and_eq_true, List.all_eq_true] at hv
  exact hv.2 (gl c.loans i) (by simp [gl, hi])
theorem loan_kind {c : Cab} (hv : c.valid = true) {i : Nat} (hi : i < c.loans.length) : (gl c.loans i).kind = 0 ∨ (gl c.loans i).kind = 1 ∨ (gl c.loans i).kind = 2 := by
  have := loan_ok hv hi
  unfold Cab.loanOk at this
  split at this
  · exact .inl (by assumption)
  · split at this
    · exact .inr (.inl (by assumption))
    · split at this
      · exact .inr (.inr (by assumption))
      · simp at this
theorem loan_move {c : Cab} (hv : c.valid = true) {i : Nat} (hi : i < c.loans.length) (hk : (gl c.loans i).kind ≠ 2) :
    0 ≤ (gl c.loans i).card ∧ (gl c.loans i).card.toNat < c.homes.length ∧ 0 ≤ (gl c.loans i).person ∧ (gl c.loans i).person ≤ 7 := by
  have h := loan_ok hv hi
  have hl : c.lent (gl c.loans i) = true := by
    rcases loan_kind hv hi with h0 | h0 | h0
    · simpa [Cab.loanOk, h0] using h
    · simpa [Cab.loanOk, h0] using h
    · exact absurd h0 hk
  simp only [Cab.lent, Cab.card, inR, Bool.and_eq_true, decide_eq_true_eq] at hl
  omega
theorem loan_look {c : Cab} (hv : c.valid = true) {i : Nat} (hi : i < c.loans.length) (hk : (gl c.loans i).kind = 2) :
    0 ≤ (gl c.loans i).slot ∧ (gl c.loans i).slot < c.slots ∧ ((gl c.loans i).card = -1 ∨ (0 ≤ (gl c.loans i).card ∧ (gl c.loans i).card.toNat < c.homes.length)) := by
  have h := loan_ok hv hi
  have hl : c.look (gl c.loans i) = true := by simpa [Cab.loanOk, hk] using h
  simp only [Cab.look, Cab.slotOf, Cab.card, inR, Bool.and_eq_true, Bool.or_eq_true, decide_eq_true_eq] at hl
  refine ⟨by omega, by omega, ?_⟩
  rcases hl.2 with h | h
  · exact .inl h
  · right; omega
theorem Turn.symm (h : Turn c x f f' sl sl' pe pe') : Turn x c f' f sl' sl pe' pe := by
  have hs := h.slots
  have hn := h.n
  refine ⟨h.xv, h.cv, h.slots.symm, h.wrong.symm, h.n.symm, by rw [hn]; exact h.fin', by rw [hn]; exact h.fin, h.out', h.out, by rw [hs]; exact h.sin', by rw [hs]; exact h.sin, h.pin', h.pin, ?_, h.len.symm, ?_, ?_, ?_⟩
  · intro i hi
    rw [hn] at hi
    obtain ⟨h1, h2⟩ := h.fin' i hi
    have h3 := h.home (f' i) h1
    rw [h2] at h3
    rw [h3]
    have h4 := (St.homes h.cv).bd (f' i) h1
    have h5 : gi c.homes (f' i) ≠ -1 := by
      have hv := h.cv
      simp only [Cab.valid, Cab.homesOk, Bool.and_eq_true, decide_eq_true_eq, List.all_eq_true] at hv
      have : c.slotOf (gi c.homes (f' i)) = true := hv.1.2.2 _ (by simp [gi, h1])
      simp only [Cab.slotOf, inR, Bool.and_eq_true, decide_eq_true_eq] at this
      omega
    rw [(h.sin _ (by omega) (by omega)).2.2]
  · intro i hi
    rw [h.len] at hi
    exact (h.kind i hi).symm
  · intro i hi hk
    rw [h.len] at hi
    rw [h.kind i hi] at hk
    obtain ⟨h1, h2⟩ := h.move i hi hk
    obtain ⟨h3, h4, h5, h6⟩ := loan_move h.cv hi hk
    rw [h1, h2, Int.toNat_natCast, (h.fin _ h4).2, (h.pin _ h5 h6).2.2]
    exact ⟨by omega, rfl⟩
  · intro i hi hk
    rw [h.len] at hi
    rw [h.kind i hi] at hk
    obtain ⟨h1, h2⟩ := h.look i hi hk
    obtain ⟨h3, h4, h5⟩ := loan_look h.cv hi hk
    rw [h1, h2, (h.sin _ h3 h4).2.2]
    refine ⟨rfl, ?_⟩
    rcases h5 with h5 | ⟨h5, h6⟩
    · rw [if_pos h5, if_pos rfl, h5]
    · rw [if_neg (by omega : ¬ (gl c.loans i).card = -1), if_neg (by omega), Int.toNat_natCast, (h.fin _ h6).2]
      omega
theorem Turn.slInj (h : Turn c x f f' sl sl' pe pe') {s u : Int} (hs : -1 ≤ s ∧ s < c.slots) (hu : -1 ≤ u ∧ u < c.slots) : sl s = sl u ↔ s = u := by
  refine ⟨fun he => ?_, fun he => by rw [he]⟩
  by_cases h1 : s = -1 <;> by_cases h2 : u = -1
  · omega
  · rw [h1, h.out] at he; have := h.sin u (by omega) hu.2; omega
  · rw [h2, h.out] at he; have := h.sin s (by omega) hs.2; omega
  · have a := h.sin s (by omega) hs.2
    have b := h.sin u (by omega) hu.2
    rw [← a.2.2, he, b.2.2]
abbrev tst (c : Cab) (f' : Nat → Nat) (sl : Int → Int) (t : List Int) : List Int := turnSt c.homes.length f' sl t
theorem Turn.back (h : Turn c x f f' sl sl' pe pe') {t : List Int} (hs : St c t) : tst x f sl' (tst c f' sl t) = t := by
  refine ext_gi (by rw [turnSt_len, hs.len, h.n]) (fun i hi => ?_)
  rw [turnSt_len, h.n] at hi
  rw [turnSt_gi (by rw [h.n]; exact hi), turnSt_gi (h.fin i hi).1, (h.fin i hi).2]
  have := hs.bd i (by rw [hs.len]; exact hi)
  by_cases h1 : gi t i = -1
  · rw [h1, h.out, h.out']
  · exact (h.sin _ (by omega) this.2).2.2
theorem Turn.gi_f (h : Turn c x f f' sl sl' pe pe') {t : List Int} {i : Nat} (hi : i < c.homes.length) : gi (tst c f' sl t) (f i) = sl (gi t i) := by
  rw [turnSt_gi (h.fin i hi).1, (h.fin i hi).2]
theorem Turn.set (h : Turn c x f f' sl sl' pe pe') {t : List Int} (ht : t.length = c.homes.length) {k : Nat} (hk : k < c.homes.length) (v : Int) : tst c f' sl (t.set k v) = (tst c f' sl t).set (f k) (sl v) := by
  refine ext_gi (by simp [turnSt_len]) (fun j hj => ?_)
  rw [turnSt_len] at hj
  have hfk := (h.fin k hk).1
  rw [turnSt_gi hj, gi_set (by omega), gi_set (by rw [turnSt_len]; exact hfk), turnSt_gi hj]
  by_cases e : k = f' j
  · rw [if_pos e, if_pos (by rw [e, (h.fin' j hj).2])]
  · rw [if_neg e, if_neg (fun he => e (by rw [← he, (h.fin k hk).2]))]
theorem Turn.lies (h : Turn c x f f' sl sl' pe pe') {t : List Int} (hs : St c t) {s : Int} (h0 : 0 ≤ s) (h1 : s < c.slots) :
    lies (tst c f' sl t) (sl s) = if lies t s = -1 then -1 else (f (lies t s).toNat : Int) := by
  rcases lies_spec (t := t) (slot := s) with ⟨h2, h3⟩ | ⟨k, h2, h3, h4, _⟩
  · rw [if_pos h2, lies_none]
    intro j hj he
    rw [turnSt_len] at hj
    rw [turnSt_gi hj] at he
    have hb := hs.bd (f' j) (by rw [hs.len]; exact (h.fin' j hj).1)
    exact h3 (f' j) (by rw [hs.len]; exact (h.fin' j hj).1) ((h.slInj ⟨hb.1, hb.2⟩ ⟨by omega, h1⟩).1 he)
  · rw [if_neg (by omega), h2, Int.toNat_natCast]
    rw [hs.len] at h3
    have hg : gi (tst c f' sl t) (f k) = sl s := by rw [h.gi_f h3, h4]
    rcases lies_spec (t := tst c f' sl t) (slot := sl s) with ⟨_, h6⟩ | ⟨j, h5, h6, h7, _⟩
    · exact absurd hg (h6 (f k) (by rw [turnSt_len]; exact (h.fin k h3).1))
    · rw [turnSt_len] at h6
      rw [turnSt_gi h6] at h7
      have hfj := (h.fin' j h6).1
      have hb := hs.bd (f' j) (by rw [hs.len]; exact hfj)
      have h8 := (h.slInj ⟨hb.1, hb.2⟩ ⟨by omega, h1⟩).1 h7
      have h9 := hs.inj (f' j) k (by rw [hs.len]; exact hfj) (by rw [hs.len]; exact h3) (by rw [h8, h4]) (by omega)
      rw [h5, ← h9, (h.fin' j h6).2]
theorem Turn.stepF (h : Turn c x f f' sl sl' pe pe') {t : List Int} (hs : St c t) {i : Nat} (hi : i < c.loans.length) {t2 : List Int} {b : Bool} (hx : (t2, b) ∈ step c t (gl c.loans i)) :
    (tst c f' sl t2, b) ∈ step x (tst c f' sl t) (gl x.loans i) := by
  have hk := h.kind i hi
  have hsl := valid_slots h.cv
  unfold step at hx ⊢
  rw [hk]
  rcases loan_kind h.cv hi with h0 | h0 | h0
  · rw [if_pos h0] at hx ⊢
    obtain ⟨h1, h2⟩ := h.move i hi (by omega)
    obtain ⟨h3, h4, _, _⟩ := loan_move h.cv hi (by omega)
    have hb := hs.bd (gl c.loans i).card.toNat (by rw [hs.len]; exact h4)
    split at hx
    · simp at hx
    · rename_i hne
      simp only [List.mem_singleton, Prod.mk.injEq] at hx
      obtain ⟨rfl, rfl⟩ := hx
      rw [h1, Int.toNat_natCast, h.gi_f h4, if_neg, h.set hs.len h4, h.out]
      · simp
      · intro he
        rw [← h.out] at he
        exact hne ((h.slInj ⟨hb.1, hb.2⟩ ⟨by omega, by omega⟩).1 he)
  · have h01 : ¬ (gl c.loans i).kind = 0 := by omega
    rw [if_neg h01, if_pos h0] at hx ⊢
    obtain ⟨h1, h2⟩ := h.move i hi (by omega)
    obtain ⟨h3, h4, _, _⟩ := loan_move h.cv hi (by omega)
    split at hx
    · rename_i hout
      rw [h1, Int.toNat_natCast, h.gi_f h4, hout, h.out, if_pos rfl]
      obtain ⟨s, hs1, hs2⟩ := List.mem_filterMap.1 hx
      rw [List.mem_range] at hs1
      split at hs2
      · rename_i hl
        simp only [Option.some.injEq, Prod.mk.injEq] at hs2
        obtain ⟨rfl, rfl⟩ := hs2
        have hs3 := h.sin s (by omega) (by omega)
        refine List.mem_filterMap.2 ⟨(sl s).toNat, ?_, ?_⟩
        · rw [List.mem_range, h.slots]; omega
        · have he : (((sl s).toNat : Nat) : Int) = sl s := by omega
          rw [he, h.lies hs (by omega) (by omega), if_pos hl, if_pos rfl, h.set hs.len h4, h.home _ h4]
          have hb := (St.homes h.cv).bd (gl c.loans i).card.toNat h4
          have : (decide (sl (s : Int) = sl (gi c.homes (gl c.loans i).card.toNat))) = decide ((s : Int) = gi c.homes (gl c.loans i).card.toNat) := by
            rw [Bool.eq_iff_iff, decide_eq_true_eq, decide_eq_true_eq]
            exact h.slInj ⟨by omega, by omega⟩ ⟨hb.1, hb.2⟩
          rw [this]
      · simp at hs2
    · simp at hx
  · have h01 : ¬ (gl c.loans i).kind = 0 := by omega
    have h02 : ¬ (gl c.loans i).kind = 1 := by omega
    rw [if_neg h01, if_neg h02] at hx ⊢
    obtain ⟨h1, h2⟩ := h.look i hi h0
    obtain ⟨h3, h4, h5⟩ := loan_look h.cv hi h0
    split at hx
    · rename_i hl
      simp only [List.mem_singleton, Prod.mk.injEq] at hx
      obtain ⟨rfl, rfl⟩ := hx
      rw [h1, h2, h.lies hs h3 h4, hl, if_pos rfl]
      simp
    · simp at hx
end
end Go.Proofs.Ytlhobddaojdnoaa

namespace Go.Proofs.Ytlhobddaojdnoaa

section
variable {c x : Cab} {f f' : Nat → Nat} {sl sl' pe pe' : Int → Int}
theorem Turn.homes (h : Turn c x f f' sl sl' pe pe') : tst c f' sl c.homes = x.homes := by
  refine ext_gi (by rw [turnSt_len, h.n]) (fun j hj => ?_)
  rw [turnSt_len] at hj
  obtain ⟨h1, h2⟩ := h.fin' j hj
  rw [turnSt_gi hj, ← h.home _ h1, h2]
theorem drop_gl {l : List Ln} {k : Nat} (hk : k < l.length) : l.drop k = gl l k :: l.drop (k + 1) := by
  rw [List.drop_eq_getElem_cons hk]; simp [gl, hk]
/-- All that can follow, from a loan on, for so many loans. -/
theorem Turn.pathsF (h : Turn c x f f' sl sl' pe pe') : ∀ (d k : Nat) (a t : List Int) (bs : List Bool), k + d ≤ c.loans.length → St c a →
    (t, bs) ∈ paths c ((c.loans.drop k).take d) a → (tst c f' sl t, bs) ∈ paths x ((x.loans.drop k).take d) (tst c f' sl a)
  | 0, k, a, t, bs, _, _, hp => by
    simp only [List.take_zero, paths, List.mem_singleton, Prod.mk.injEq] at hp ⊢
    exact ⟨by rw [hp.1], hp.2⟩
  | d + 1, k, a, t, bs, hk, hs, hp => by
    have hsl := valid_slots h.cv
    rw [drop_gl (by omega), List.take_succ_cons] at hp
    rw [drop_gl (by rw [h.len]; omega), List.take_succ_cons]
    simp only [paths, List.mem_flatMap, List.mem_map] at hp ⊢
    obtain ⟨y, hy, z, hz, he⟩ := hp
    cases he
    exact ⟨(tst c f' sl y.1, y.2), h.stepF hs (by omega) hy, (tst c f' sl z.1, z.2), Turn.pathsF h d (k + 1) y.1 z.1 z.2 (by omega) (hs.step (by omega) hy) hz, rfl⟩
theorem Turn.waysF (h : Turn c x f f' sl sl' pe pe') {d : Nat} (hd : d ≤ c.loans.length) {t : List Int} {bs : List Bool} (hp : (t, bs) ∈ paths c (c.loans.take d) c.homes) :
    (tst c f' sl t, bs) ∈ paths x (x.loans.take d) x.homes := by
  have := h.pathsF d 0 c.homes t bs (by omega) (St.homes h.cv) (by simpa using hp)
  rw [h.homes] at this
  simpa using this
theorem Turn.truthF (h : Turn c x f f' sl sl' pe pe') {d : Nat} (hd : d ≤ c.loans.length) {W : Int} {t : List Int} {bs : List Bool} (hp : (t, bs) ∈ truthsBy c anyRule (c.loans.take d) W) :
    (tst c f' sl t, bs) ∈ truthsBy x anyRule (x.loans.take d) W := by
  obtain ⟨h1, h2⟩ := truths_mem.1 hp
  exact truths_mem.2 ⟨h.waysF hd h1, h2⟩
theorem Turn.emptyF (h : Turn c x f f' sl sl' pe pe') {d : Nat} (hd : d ≤ c.loans.length) {W : Int} (he : truthsBy x anyRule (x.loans.take d) W = []) : truthsBy c anyRule (c.loans.take d) W = [] :=
  Decidable.byContradiction fun hh => by
    obtain ⟨⟨t, bs⟩, hx⟩ := List.exists_mem_of_ne_nil _ hh
    have := h.truthF hd hx
    rw [he] at this
    simp at this
theorem Turn.empty (h : Turn c x f f' sl sl' pe pe') {d : Nat} (hd : d ≤ c.loans.length) (W : Int) : truthsBy c anyRule (c.loans.take d) W = [] ↔ truthsBy x anyRule (x.loans.take d) W = [] :=
  ⟨fun he => h.symm.emptyF (by rw [h.len]; exact hd) he, fun he => h.emptyF hd he⟩
theorem Turn.check (h : Turn c x f f' sl sl' pe pe') : check c = Go.Proofs.Ytlhobddaojdnoaa.check x := by
  unfold Go.Proofs.Ytlhobddaojdnoaa.check
  rw [if_pos h.cv, if_pos h.xv, h.len]
  exact checkFrom_congr h.len.symm (fun j hj => by rw [h.wrong]; exact h.empty (by omega) _) _ _ (by omega)
theorem Turn.truth (h : Turn c x f f' sl sl' pe pe') {t : List Int} {bs : List Bool} (hp : (t, bs) ∈ truths c) : (tst c f' sl t, bs) ∈ truths x := by
  have := h.truthF (Nat.le_refl _) (W := c.wrong) (t := t) (bs := bs) (by rw [List.take_of_length_le (Nat.le_refl _)]; exact hp)
  rw [List.take_of_length_le (by rw [h.len]; exact Nat.le_refl _), ← h.wrong] at this
  exact this
theorem Turn.way (h : Turn c x f f' sl sl' pe pe') {t : List Int} {bs : List Bool} (hp : (t, bs) ∈ allT c) : (tst c f' sl t, bs) ∈ allT x := by
  have := h.waysF (Nat.le_refl _) (t := t) (bs := bs) (by rw [List.take_of_length_le (Nat.le_refl _)]; exact allT_mem.1 hp)
  rw [List.take_of_length_le (by rw [h.len]; exact Nat.le_refl _)] at this
  exact allT_mem.2 this
theorem Turn.some (h : Turn c x f f' sl sl' pe pe') (hT : truths c ≠ []) : truths x ≠ [] := by
  obtain ⟨⟨t, bs⟩, hx⟩ := List.exists_mem_of_ne_nil _ hT
  exact List.ne_nil_of_mem (h.truth hx)
theorem Turn.none (h : Turn c x f f' sl sl' pe pe') (hT : truths c = []) : truths x = [] :=
  Decidable.byContradiction fun hh => h.symm.some hh hT
theorem Turn.surelyF (h : Turn c x f f' sl sl' pe pe') {i : Nat} (hi : (surelyS c).testBit i = true) : (surelyS x).testBit i = true := by
  obtain ⟨h1, h2, h3⟩ := surely_test.1 hi
  exact surely_test.2 ⟨by rw [h.len]; exact h1, by rw [h.kind i h1]; exact h2, fun t bs ht => h3 _ bs (h.symm.truth ht)⟩
theorem Turn.surely (h : Turn c x f f' sl sl' pe pe') : surelyS c = surelyS x :=
  Nat.eq_of_testBit_eq fun i => by rw [Bool.eq_iff_iff]; exact ⟨h.surelyF, h.symm.surelyF⟩
theorem Turn.canF (h : Turn c x f f' sl sl' pe pe') {i : Nat} (hi : (canS c).testBit i = true) : (canS x).testBit i = true := by
  obtain ⟨h1, t, bs, ht, hb⟩ := can_test.1 hi
  exact can_test.2 ⟨by rw [h.len]; exact h1, _, bs, h.truth ht, hb⟩
theorem Turn.can (h : Turn c x f f' sl sl' pe pe') : canS c = canS x :=
  Nat.eq_of_testBit_eq fun i => by rw [Bool.eq_iff_iff]; exact ⟨h.canF, h.symm.canF⟩
theorem Turn.person (h : Turn c x f f' sl sl' pe pe') {i : Nat} (hi : i < c.loans.length) (hk : (gl c.loans i).kind = 1) : (gl x.loans i).person = pe (gl c.loans i).person := (h.move i hi (by omega)).2
theorem Turn.ownF (h : Turn c x f f' sl sl' pe pe') {p : Nat} (hp : p < 8) (hi : (ownS c).testBit p = true) : (ownS x).testBit (pe p).toNat = true := by
  obtain ⟨_, h2⟩ := own_test.1 hi
  have hpp := h.pin p (by omega) (by omega)
  refine own_test.2 ⟨by omega, fun t bs ht => ?_⟩
  have ht' := h.symm.truth ht
  obtain ⟨i, hi, h3, h4⟩ := h2 _ bs ht'
  have hk := (wrong_back _ _ _ _ (truths_mem.1 ht').1 i h4).2
  exact ⟨i, by rw [h.len]; exact hi, by rw [h.person hi hk, h3]; omega, h4⟩
theorem Turn.own (h : Turn c x f f' sl sl' pe pe') {p : Nat} (hp : p < 8) : (ownS c).testBit p = (ownS x).testBit (pe p).toNat := by
  have hpp := h.pin p (by omega) (by omega)
  rw [Bool.eq_iff_iff]
  refine ⟨h.ownF hp, fun hh => ?_⟩
  have := h.symm.ownF (by omega) hh
  have he : (((pe p).toNat : Nat) : Int) = pe p := by omega
  rw [he, hpp.2.2] at this
  simpa using this
theorem Turn.mayF (h : Turn c x f f' sl sl' pe pe') {p : Nat} (hi : (mayS c).testBit p = true) : (mayS x).testBit (pe p).toNat = true := by
  obtain ⟨i, h1, h2⟩ := may_test.1 hi
  have hl := (can_test.1 h1).1
  have hk := can_kind h1
  have hr := person_rng h.cv hl hk
  refine may_test.2 ⟨i, h.canF h1, ?_⟩
  rw [h.person hl hk]
  have : (p : Int) = (gl c.loans i).person := by omega
  rw [this]
theorem Turn.may (h : Turn c x f f' sl sl' pe pe') {p : Nat} (hp : p < 8) : (mayS c).testBit p = (mayS x).testBit (pe p).toNat := by
  have hpp := h.pin p (by omega) (by omega)
  rw [Bool.eq_iff_iff]
  refine ⟨h.mayF, fun hh => ?_⟩
  have := h.symm.mayF hh
  have he : (((pe p).toNat : Nat) : Int) = pe p := by omega
  rw [he, hpp.2.2] at this
  simpa using this
theorem Turn.leastF (h : Turn c x f f' sl sl' pe pe') (hA : allT c ≠ []) : leastN x ≤ leastN c ∧ allT x ≠ [] := by
  obtain ⟨t, bs, h1, h2⟩ := least_at hA
  have h3 := h.way h1
  have := least_le h3
  exact ⟨by omega, List.ne_nil_of_mem h3⟩
theorem Turn.wrongs (h : Turn c x f f' sl sl' pe pe') : wrongsE c = wrongsE x := by
  by_cases hA : allT c = []
  · have hB : allT x = [] := Decidable.byContradiction fun hh => (h.symm.leastF hh).2 hA
    rw [wrongsE_no h.cv hA, wrongsE_no h.xv hB]
  · have h1 := h.leastF hA
    have h2 := h.symm.leastF h1.2
    rw [wrongsE_yes h.cv hA, wrongsE_yes h.xv h1.2]
    have : leastN c = leastN x := by omega
    rw [this]
theorem Turn.whereF (h : Turn c x f f' sl sl' pe pe') {i : Nat} (hi : i < c.homes.length) {s : Nat} (hs : (s : Int) < c.slots) (hw : (setL (whereL c i)).testBit s = true) : (setL (whereL x (f i))).testBit (sl s).toNat = true := by
  obtain ⟨t, bs, ht, hg⟩ := (where_test h.cv hi).1 hw
  have h1 := h.sin s (by omega) hs
  refine (where_test h.xv (by rw [h.n]; exact (h.fin i hi).1)).2 ⟨_, bs, h.truth ht, ?_⟩
  rw [h.gi_f hi, hg]
  omega
theorem Turn.whereS (h : Turn c x f f' sl sl' pe pe') {i : Nat} (hi : i < c.homes.length) {s : Nat} (hs : (s : Int) < c.slots) : (setL (whereL c i)).testBit s = (setL (whereL x (f i))).testBit (sl s).toNat := by
  have h1 := h.sin s (by omega) hs
  rw [Bool.eq_iff_iff]
  refine ⟨h.whereF hi hs, fun hh => ?_⟩
  have h2 := h.symm.whereF (i := f i) (by rw [h.n]; exact (h.fin i hi).1) (s := (sl s).toNat) (by rw [h.slots]; omega) hh
  have he : (((sl s).toNat : Nat) : Int) = sl s := by omega
  rw [he, h1.2.2, (h.fin i hi).2] at h2
  simpa using h2
theorem Turn.outF (h : Turn c x f f' sl sl' pe pe') {i : Nat} (hi : i < c.homes.length) (hw : outL (whereL c i) = true) : outL (whereL x (f i)) = true := by
  obtain ⟨t, bs, ht, hg⟩ := where_out.1 hw
  exact where_out.2 ⟨_, bs, h.truth ht, by rw [h.gi_f hi, hg, h.out]⟩
theorem Turn.outS (h : Turn c x f f' sl sl' pe pe') {i : Nat} (hi : i < c.homes.length) : outL (whereL c i) = outL (whereL x (f i)) := by
  rw [Bool.eq_iff_iff]
  refine ⟨h.outF hi, fun hh => ?_⟩
  have h2 := h.symm.outF (i := f i) (by rw [h.n]; exact (h.fin i hi).1) hh
  rwa [(h.fin i hi).2] at h2

/-! ### how many are away -/
theorem away_count {c : Cab} {t : List Int} (ht : t.length = c.homes.length) : away c t = (List.range c.homes.length).countP fun i => !decide (gi t i = -1) && !decide (gi t i = gi c.homes i) := by
  unfold away
  have aux : ∀ (a b : List Int), a.length = b.length → (a.zip b).countP (fun x => !decide (x.1 = -1) && !decide (x.1 = x.2)) = (List.range b.length).countP fun i => !decide (gi a i = -1) && !decide (gi a i = gi b i) := by
    intro a
    induction a with
    | nil => intro b hb; have : b = [] := List.eq_nil_of_length_eq_zero (by simpa using hb.symm); subst this; rfl
    | cons y a ih =>
      intro b hb
      match b, hb with
      | z :: b, hb =>
        have hb' : a.length = b.length := by simpa using hb
        rw [List.zip_cons_cons, List.countP_cons, ih b hb', List.length_cons, List.range_succ_eq_map, List.countP_cons, List.countP_map]
        have e : ∀ i : Nat, gi (y :: a) (i + 1) = gi a i ∧ gi (z :: b) (i + 1) = gi b i := fun i => by simp [gi]
        have e0 : gi (y :: a) 0 = y ∧ gi (z :: b) 0 = z := by simp [gi]
        simp only [Function.comp_def, Nat.succ_eq_add_one, e, e0]
  exact aux t c.homes ht
theorem countP_turn {n : Nat} {f f' : Nat → Nat} (h1 : ∀ i, i < n → f i < n ∧ f' (f i) = i) (h2 : ∀ i, i < n → f' i < n ∧ f (f' i) = i) (p : Nat → Bool) : (List.range n).countP (fun i => p (f i)) = (List.range n).countP p := by
  have hp : ((List.range n).map f).Perm (List.range n) := by
    refine (List.perm_ext_iff_of_nodup ?_ List.nodup_range).2 (fun a => ?_)
    · rw [List.nodup_iff_pairwise_ne, List.pairwise_map]
      refine List.Pairwise.imp_of_mem ?_ (List.nodup_iff_pairwise_ne.1 List.nodup_range)
      intro a b ha hb hne he
      rw [List.mem_range] at ha hb
      exact hne (by rw [← (h1 a ha).2, he, (h1 b hb).2])
    · rw [List.mem_map, List.mem_range]
      constructor
      · rintro ⟨i, hi, rfl⟩; exact (h1 i (List.mem_range.1 hi)).1
      · intro ha; exact ⟨f' a, List.mem_range.2 (h2 a ha).1, (h2 a ha).2⟩
  have := hp.countP_eq p
  rw [List.countP_map] at this
  exact this
theorem Turn.awayS (h : Turn c x f f' sl sl' pe pe') {t : List Int} (hs : St c t) : away x (tst c f' sl t) = away c t := by
  rw [away_count hs.len, away_count (by rw [turnSt_len, h.n]), h.n]
  rw [← countP_turn h.fin h.fin' (fun j => !decide (gi (tst c f' sl t) j = -1) && !decide (gi (tst c f' sl t) j = gi x.homes j))]
  apply List.countP_congr
  intro i hi
  rw [List.mem_range] at hi
  have hb := hs.bd i (by rw [hs.len]; exact hi)
  have hh := (St.homes h.cv).bd i hi
  have e1 : sl (gi t i) = -1 ↔ gi t i = -1 := by
    have := h.slInj (s := gi t i) (u := -1) hb ⟨by omega, by have := valid_slots h.cv; omega⟩
    rwa [h.out] at this
  have e2 := h.slInj (s := gi t i) (u := gi c.homes i) hb hh
  rw [h.gi_f hi, h.home i hi]
  simp [e1, e2]
theorem Turn.spanF (h : Turn c x f f' sl sl' pe pe') {n : Nat} (hn : n ∈ awayL c) : n ∈ awayL x := by
  obtain ⟨⟨t, bs⟩, ht, rfl⟩ := List.mem_map.1 hn
  exact List.mem_map.2 ⟨_, h.truth ht, h.awayS (truth_st h.cv ht)⟩
theorem maxL_eq {l l' : List Nat} (h : ∀ n, n ∈ l ↔ n ∈ l') : maxL l = maxL l' := by
  apply Nat.le_antisymm
  · exact maxL_bd.2 fun n hn => maxL_ge ((h n).1 hn)
  · exact maxL_bd.2 fun n hn => maxL_ge ((h n).2 hn)
theorem Turn.misplaced (h : Turn c x f f' sl sl' pe pe') : misplacedE c = misplacedE x := by
  by_cases hT : truths c = []
  · rw [misplaced_no h.cv hT, misplaced_no h.xv (h.none hT)]
  · rw [misplaced_yes h.cv hT, misplaced_yes h.xv (h.some hT)]
    have e : ∀ n, n ∈ awayL c ↔ n ∈ awayL x := fun n => ⟨h.spanF, h.symm.spanF⟩
    rw [minL_ext e, maxL_eq e]
end
end Go.Proofs.Ytlhobddaojdnoaa

namespace Go.Proofs.Ytlhobddaojdnoaa

theorem nextFrom_left (l : List (List Int)) : ∀ (f s best left : Nat), ∃ m : Nat, (nextFrom l f s best left).2 = (m : Int) ∧ m ≤ left ∧ (∀ k, k < f → m ≤ worst l ((s + k : Nat) : Int)) ∧ (m = left ∨ ∃ k, k < f ∧ m = worst l ((s + k : Nat) : Int))
  | 0, s, best, left => ⟨left, rfl, Nat.le_refl _, by omega, .inl rfl⟩
  | f + 1, s, best, left => by
    unfold nextFrom
    have shift : ∀ k : Nat, s + 1 + k = s + (k + 1) := fun k => by omega
    split
    · rename_i hlt
      obtain ⟨m, h1, h2, h3, h4⟩ := nextFrom_left l f (s + 1) s (worst l (s : Int))
      refine ⟨m, h1, by omega, fun k hk => ?_, ?_⟩
      · cases k with
        | zero => simpa using h2
        | succ k => rw [← shift]; exact h3 k (by omega)
      · rcases h4 with h4 | ⟨k, hk, h4⟩
        · exact .inr ⟨0, by omega, by simpa using h4⟩
        · exact .inr ⟨k + 1, by omega, by rw [← shift]; exact h4⟩
    · rename_i hlt
      obtain ⟨m, h1, h2, h3, h4⟩ := nextFrom_left l f (s + 1) best left
      refine ⟨m, h1, by omega, fun k hk => ?_, ?_⟩
      · cases k with
        | zero => simp; omega
        | succ k => rw [← shift]; exact h3 k (by omega)
      · rcases h4 with h4 | ⟨k, hk, h4⟩
        · exact .inl h4
        · exact .inr ⟨k + 1, by omega, by rw [← shift]; exact h4⟩
theorem states_mem {c : Cab} {t : List Int} : t ∈ states c ↔ ∃ bs, (t, bs) ∈ truths c := by
  unfold states
  rw [dedup_mem, List.mem_map]
  constructor
  · rintro ⟨x, hx, rfl⟩; exact ⟨x.2, hx⟩
  · rintro ⟨bs, hb⟩; exact ⟨_, hb, rfl⟩
theorem states_nodup (c : Cab) : (states c).Nodup := dedup_nodup _
section
variable {c x : Cab} {f f' : Nat → Nat} {sl sl' pe pe' : Int → Int}
theorem Turn.states (h : Turn c x f f' sl sl' pe pe') : ((states c).map (tst c f' sl)).Perm (Go.Proofs.Ytlhobddaojdnoaa.states x) := by
  refine states_perm ?_ (fun t => ?_)
  · rw [List.nodup_iff_pairwise_ne, List.pairwise_map]
    refine List.Pairwise.imp_of_mem ?_ (List.nodup_iff_pairwise_ne.1 (states_nodup c))
    intro a b ha hb hne he
    obtain ⟨bs, ha⟩ := states_mem.1 ha
    obtain ⟨bs', hb⟩ := states_mem.1 hb
    exact hne (by rw [← h.back (truth_st h.cv ha), he, h.back (truth_st h.cv hb)])
  · rw [List.mem_map]
    constructor
    · rintro ⟨a, ha, rfl⟩
      obtain ⟨bs, ha⟩ := states_mem.1 ha
      exact ⟨bs, h.truth ha⟩
    · rintro ⟨bs, hb⟩
      have hb' := h.symm.truth hb
      refine ⟨_, states_mem.2 ⟨bs, hb'⟩, ?_⟩
      exact h.symm.back (truth_st h.xv hb)
theorem Turn.worst (h : Turn c x f f' sl sl' pe pe') {s : Int} (h0 : 0 ≤ s) (h1 : s < c.slots) : worst (Go.Proofs.Ytlhobddaojdnoaa.states x) (sl s) = Go.Proofs.Ytlhobddaojdnoaa.worst (Go.Proofs.Ytlhobddaojdnoaa.states c) s := by
  rw [← worst_perm h.states]
  unfold Go.Proofs.Ytlhobddaojdnoaa.worst
  rw [List.map_map]
  congr 1
  apply List.map_congr_left
  intro a ha
  obtain ⟨bs, ha⟩ := states_mem.1 ha
  have hsa := truth_st h.cv ha
  simp only [Function.comp]
  rw [List.countP_map]
  apply List.countP_congr
  intro b hb
  obtain ⟨bs', hb⟩ := states_mem.1 hb
  have hsb := truth_st h.cv hb
  simp only [Function.comp, decide_eq_true_eq]
  rw [h.lies hsa h0 h1, h.lies hsb h0 h1]
  have la := lies_range hsa s
  have lb := lies_range hsb s
  by_cases e1 : Go.Proofs.Ytlhobddaojdnoaa.lies a s = -1 <;> by_cases e2 : Go.Proofs.Ytlhobddaojdnoaa.lies b s = -1
  · rw [if_pos e1, if_pos e2]; omega
  · rw [if_pos e1, if_neg e2]; omega
  · rw [if_neg e1, if_pos e2]; omega
  · rw [if_neg e1, if_neg e2]
    have fa := h.fin (Go.Proofs.Ytlhobddaojdnoaa.lies a s).toNat (by omega)
    have fb := h.fin (Go.Proofs.Ytlhobddaojdnoaa.lies b s).toNat (by omega)
    constructor
    · intro he
      have : f (Go.Proofs.Ytlhobddaojdnoaa.lies b s).toNat = f (Go.Proofs.Ytlhobddaojdnoaa.lies a s).toNat := by omega
      have : (Go.Proofs.Ytlhobddaojdnoaa.lies b s).toNat = (Go.Proofs.Ytlhobddaojdnoaa.lies a s).toNat := by rw [← fb.2, this, fa.2]
      omega
    · intro he; rw [he]
theorem Turn.next (h : Turn c x f f' sl sl' pe pe') : (nextE c).2 = (nextE x).2 := by
  unfold nextE
  by_cases hT : truths c = []
  · rw [openE_no h.cv hT, openE_no h.xv (h.none hT)]; rfl
  · rw [openE_yes h.cv hT, openE_yes h.xv (h.some hT)]
    have hl : (Go.Proofs.Ytlhobddaojdnoaa.states c).length = (Go.Proofs.Ytlhobddaojdnoaa.states x).length := by rw [← h.states.length_eq, List.length_map]
    simp only [if_true]
    rw [hl]
    split
    · rfl
    · have hsl := valid_slots h.cv
      rw [h.slots]
      obtain ⟨m, h1, h2, h3, h4⟩ := nextFrom_left (Go.Proofs.Ytlhobddaojdnoaa.states c) c.slots.toNat 0 0 ((Go.Proofs.Ytlhobddaojdnoaa.states x).length + 1)
      obtain ⟨m', h1', h2', h3', h4'⟩ := nextFrom_left (Go.Proofs.Ytlhobddaojdnoaa.states x) c.slots.toNat 0 0 ((Go.Proofs.Ytlhobddaojdnoaa.states x).length + 1)
      rw [h1, h1']
      simp only [Nat.zero_add] at h3 h4 h3' h4'
      have a : m' ≤ m := by
        rcases h4 with h4 | ⟨k, hk, h4⟩
        · omega
        · have hs := h.sin k (by omega) (by omega)
          have := h3' (sl k).toNat (by omega)
          rw [show (((sl (k : Int)).toNat : Nat) : Int) = sl k by omega, h.worst (by omega) (by omega)] at this
          omega
      have b : m ≤ m' := by
        rcases h4' with h4' | ⟨k, hk, h4'⟩
        · omega
        · have hs := h.sin' k (by omega) (by omega)
          have := h3 (sl' k).toNat (by omega)
          rw [show (((sl' (k : Int)).toNat : Nat) : Int) = sl' k by omega, ← h.worst hs.1 hs.2.1, hs.2.2] at this
          omega
      have : m = m' := by omega
      rw [this]
end
end Go.Proofs.Ytlhobddaojdnoaa

namespace Go.Proofs.Ytlhobddaojdnoaa

def cardT (n a : Nat) (i : Int) : Int := if i = -1 then -1 else (i + a) % n
def slotT (S : Int) (b : Nat) (s : Int) : Int := (s + b) % S
def persT (d : Nat) (p : Int) : Int := (p + d) % 8
def loanT (n : Nat) (S : Int) (a b d : Nat) (l : Ln) : Ln := if l.kind = 2 then ⟨l.kind, cardT n a l.card, 0, slotT S b l.slot⟩ else ⟨l.kind, cardT n a l.card, persT d l.person, 0⟩
def fT (n a i : Nat) : Nat := (i + a) % n
def fT' (n a j : Nat) : Nat := (j + (n - a % n)) % n
def slT (S : Int) (b : Nat) (s : Int) : Int := if s = -1 then -1 else (s + b) % S
def slT' (S : Int) (b : Nat) (s : Int) : Int := if s = -1 then -1 else (s + (S - b % S)) % S
def peT' (d : Nat) (p : Int) : Int := (p + (8 - d % 8)) % 8
def turned (c : Cab) (a b d : Nat) : Cab :=
  { slots := c.slots, homes := (List.range c.homes.length).map fun j => slotT c.slots b (gi c.homes (fT' c.homes.length a j)), wrong := c.wrong, loans := c.loans.map (loanT c.homes.length c.slots a b d) }

theorem modI {i j S : Int} (h0 : 0 ≤ i) (h1 : i < S) (k : Int) (hj : j = i + k * S) : j % S = i := by
  subst hj
  rw [Int.add_mul_emod_self_right]
  exact Int.emod_eq_of_lt h0 h1
theorem shift_back {S i : Int} {b : Nat} (h0 : 0 ≤ i) (h1 : i < S) : ((i + b) % S + (S - b % S)) % S = i := by
  have e1 := Int.emod_add_mul_ediv (i + b) S
  have e2 := Int.emod_add_mul_ediv (b : Int) S
  refine modI h0 h1 (1 - (i + b) / S + b / S) ?_
  have e3 : (i + b) % S = i + b - S * ((i + b) / S) := by omega
  have e4 : (b : Int) % S = b - S * (b / S) := by omega
  rw [e3, e4, Int.add_mul, Int.sub_mul, Int.mul_comm S, Int.mul_comm S]
  omega
theorem shift_back' {S i : Int} {b : Nat} (h0 : 0 ≤ i) (h1 : i < S) : ((i + (S - b % S)) % S + b) % S = i := by
  have e2 := Int.emod_add_mul_ediv (b : Int) S
  have e1 := Int.emod_add_mul_ediv (i + (S - b % S)) S
  refine modI h0 h1 (1 - (i + (S - b % S)) / S + b / S) ?_
  have e3 : (i + (S - b % S)) % S = i + (S - b % S) - S * ((i + (S - b % S)) / S) := by omega
  have e4 : (b : Int) % S = b - S * (b / S) := by omega
  rw [e3, e4, Int.add_mul, Int.sub_mul, Int.mul_comm S, Int.mul_comm S]
  rw [e4] at *
  generalize (i + (S - (b - S * (b / S)))) / S = q at *
  rw [Int.mul_comm S (b / S)] at *
  omega
theorem fT_int (n a i : Nat) : (fT n a i : Int) = ((i : Int) + a) % n := by unfold fT; simp
theorem fT'_int {n a j : Nat} (hn : 0 < n) : (fT' n a j : Int) = ((j : Int) + (n - (a : Int) % n)) % n := by
  unfold fT'
  have : a % n < n := Nat.mod_lt _ hn
  rw [Int.natCast_emod, Int.natCast_add, Int.natCast_sub (by omega), Int.natCast_emod]
theorem fT_fin {n a i : Nat} (hi : i < n) : fT n a i < n ∧ fT' n a (fT n a i) = i := by
  have hn : 0 < n := by omega
  refine ⟨Nat.mod_lt _ hn, ?_⟩
  have : (fT' n a (fT n a i) : Int) = i := by
    rw [fT'_int hn, fT_int]
    exact shift_back (by omega) (by omega)
  omega
theorem fT_fin' {n a i : Nat} (hi : i < n) : fT' n a i < n ∧ fT n a (fT' n a i) = i := by
  have hn : 0 < n := by omega
  refine ⟨Nat.mod_lt _ hn, ?_⟩
  have : (fT n a (fT' n a i) : Int) = i := by
    rw [fT_int, fT'_int hn]
    exact shift_back' (by omega) (by omega)
  omega
theorem home_in {c : Cab} (hv : c.valid = true) {i : Nat} (hi : i < c.homes.length) : 0 ≤ gi c.homes i ∧ gi c.homes i < c.slots := by
  simp only [Cab.valid, Cab.homesOk, Bool.and_eq_true, decide_eq_true_eq, List.all_eq_true] at hv
  have : c.slotOf (gi c.homes i) = true := hv.1.2.2 _ (by simp [gi, hi])
  simp only [Cab.slotOf, inR, Bool.and_eq_true, decide_eq_true_eq] at this
  omega
theorem turned_len (c : Cab) (a b d : Nat) : (turned c a b d).homes.length = c.homes.length := by simp [turned]
theorem turned_home {c : Cab} {a b d j : Nat} (hj : j < c.homes.length) : gi (turned c a b d).homes j = slotT c.slots b (gi c.homes (fT' c.homes.length a j)) := by
  simp [turned, gi, hj]
theorem turned_loan {c : Cab} {a b d i : Nat} (hi : i < c.loans.length) : gl (turned c a b d).loans i = loanT c.homes.length c.slots a b d (gl c.loans i) := by
  simp [turned, gl, hi]
theorem slT_in {S : Int} {b : Nat} (s : Int) (h0 : 0 ≤ s) (h1 : s < S) : 0 ≤ slT S b s ∧ slT S b s < S ∧ slT' S b (slT S b s) = s := by
  have e : slT S b s = (s + b) % S := by unfold slT; rw [if_neg (by omega)]
  have l0 := Int.emod_nonneg (s + b) (show S ≠ 0 by omega)
  have l1 := Int.emod_lt_of_pos (s + b) (show 0 < S by omega)
  rw [e]
  refine ⟨l0, l1, ?_⟩
  unfold slT'
  rw [if_neg (by omega)]
  exact shift_back h0 h1
theorem slT_in' {S : Int} {b : Nat} (s : Int) (h0 : 0 ≤ s) (h1 : s < S) : 0 ≤ slT' S b s ∧ slT' S b s < S ∧ slT S b (slT' S b s) = s := by
  have e : slT' S b s = (s + (S - b % S)) % S := by unfold slT'; rw [if_neg (by omega)]
  have l0 := Int.emod_nonneg (s + (S - b % S)) (show S ≠ 0 by omega)
  have l1 := Int.emod_lt_of_pos (s + (S - b % S)) (show 0 < S by omega)
  rw [e]
  refine ⟨l0, l1, ?_⟩
  unfold slT
  rw [if_neg (by omega)]
  exact shift_back' h0 h1
theorem slotT_eq {S : Int} {b : Nat} {s : Int} (h : 0 ≤ s) : slotT S b s = slT S b s := by unfold slotT slT; rw [if_neg (by omega)]
theorem cardT_eq {n a : Nat} {i : Int} (h : 0 ≤ i) : cardT n a i = (fT n a i.toNat : Int) := by
  unfold cardT
  rw [if_neg (by omega), fT_int]
  congr 2
  omega
theorem persT_in (d : Nat) (p : Int) (h0 : 0 ≤ p) (h1 : p ≤ 7) : 0 ≤ persT d p ∧ persT d p ≤ 7 ∧ peT' d (persT d p) = p := by
  unfold persT peT'; omega
theorem persT_in' (d : Nat) (p : Int) (h0 : 0 ≤ p) (h1 : p ≤ 7) : 0 ≤ peT' d p ∧ peT' d p ≤ 7 ∧ persT d (peT' d p) = p := by
  unfold persT peT'; omega
theorem turned_valid {c : Cab} (hv : c.valid = true) (a b d : Nat) : (turned c a b d).valid = true := by
  have hs := valid_slots hv
  have hw := valid_wrong hv
  have hh := valid_homes hv
  have hl := valid_loans hv
  have h1 : (turned c a b d).sizes = true := by
    have e : (turned c a b d).sizes = (inR c.slots 1 6 && decide ((turned c a b d).homes.length ≤ 5) && inR c.wrong 0 12 && decide ((turned c a b d).loans.length ≤ 12)) := rfl
    rw [e, turned_len, show (turned c a b d).loans.length = c.loans.length by simp [turned]]
    simp [inR, hs, hw, hh, hl]
  have h2 : (turned c a b d).homesOk = true := by
    unfold Cab.homesOk
    rw [Bool.and_eq_true, decide_eq_true_eq, List.all_eq_true]
    constructor
    · show ((List.range c.homes.length).map fun j => slotT c.slots b (gi c.homes (fT' c.homes.length a j))).Nodup
      rw [List.nodup_iff_pairwise_ne, List.pairwise_map]
      refine List.Pairwise.imp_of_mem ?_ (List.nodup_iff_pairwise_ne.1 List.nodup_range)
      intro i j hi hj hne he
      rw [List.mem_range] at hi hj
      have fi := fT_fin' (a := a) hi
      have fj := fT_fin' (a := a) hj
      have gi1 := home_in hv fi.1
      have gj1 := home_in hv fj.1
      rw [slotT_eq gi1.1, slotT_eq gj1.1] at he
      have e1 := slT_in (b := b) _ gi1.1 gi1.2
      have e2 := slT_in (b := b) _ gj1.1 gj1.2
      have e3 : gi c.homes (fT' c.homes.length a i) = gi c.homes (fT' c.homes.length a j) := by rw [← e1.2.2, he, e2.2.2]
      have e4 := (St.homes hv).inj _ _ fi.1 fj.1 e3 (by omega)
      exact hne (by rw [← fi.2, e4, fj.2])
    · intro y hy
      obtain ⟨j, hj, rfl⟩ := List.mem_map.1 hy
      rw [List.mem_range] at hj
      have g1 := home_in hv (fT_fin' (a := a) hj).1
      have e1 := slT_in (b := b) _ g1.1 g1.2
      rw [slotT_eq g1.1]
      have e : Cab.slotOf (turned c a b d) (slT c.slots b (gi c.homes (fT' c.homes.length a j))) = inR (slT c.slots b (gi c.homes (fT' c.homes.length a j))) 0 (c.slots - 1) := rfl
      rw [e]
      simp [inR]; omega
  have h3 : (turned c a b d).loans.all (turned c a b d).loanOk = true := by
    rw [List.all_eq_true]
    intro y hy
    obtain ⟨l, hl', rfl⟩ := List.mem_map.1 (show y ∈ c.loans.map (loanT c.homes.length c.slots a b d) from hy)
    obtain ⟨i, hi, rfl⟩ := List.getElem_of_mem hl'
    have hg : c.loans[i] = gl c.loans i := by simp [gl, hi]
    rw [hg]
    have ec : ∀ k, Cab.card (turned c a b d) k = inR k 0 ((c.homes.length : Int) - 1) := fun k => by unfold Cab.card; rw [turned_len]
    have es : ∀ k, Cab.slotOf (turned c a b d) k = inR k 0 (c.slots - 1) := fun k => rfl
    rcases loan_kind hv hi with h0 | h0 | h0
    · obtain ⟨h3, h4, h5, h6⟩ := loan_move hv hi (by omega)
      have f1 := (fT_fin (a := a) h4).1
      have p1 := persT_in d _ h5 h6
      simp only [loanT, h0, Cab.loanOk, Cab.lent, ec, cardT_eq h3]
      simp [inR]; omega
    · obtain ⟨h3, h4, h5, h6⟩ := loan_move hv hi (by omega)
      have f1 := (fT_fin (a := a) h4).1
      have p1 := persT_in d _ h5 h6
      simp only [loanT, h0, Cab.loanOk, Cab.lent, ec, cardT_eq h3]
      simp [inR]; omega
    · obtain ⟨h3, h4, h5⟩ := loan_look hv hi h0
      have s1 := slT_in (b := b) _ h3 h4
      rcases h5 with h5 | ⟨h5, h6⟩
      · simp only [loanT, h0, Cab.loanOk, Cab.look, ec, es, slotT_eq h3, h5, cardT]
        simp [inR]; omega
      · have f1 := (fT_fin (a := a) h6).1
        simp only [loanT, h0, Cab.loanOk, Cab.look, ec, es, slotT_eq h3, cardT_eq h5]
        simp [inR]; omega
  unfold Cab.valid
  rw [h1, h2, h3]
  rfl
theorem turned_turn {c : Cab} (hv : c.valid = true) (a b d : Nat) : Turn c (turned c a b d) (fT c.homes.length a) (fT' c.homes.length a) (slT c.slots b) (slT' c.slots b) (persT d) (peT' d) := by
  refine ⟨hv, turned_valid hv a b d, rfl, rfl, turned_len c a b d, fun i hi => fT_fin hi, fun i hi => fT_fin' hi, by simp [slT], by simp [slT'], fun s h0 h1 => slT_in s h0 h1, fun s h0 h1 => slT_in' s h0 h1,
    fun p h0 h1 => persT_in d p h0 h1, fun p h0 h1 => persT_in' d p h0 h1, fun i hi => ?_, by simp [turned], fun i hi => ?_, fun i hi hk => ?_, fun i hi hk => ?_⟩
  · rw [turned_home (fT_fin hi).1, (fT_fin hi).2, slotT_eq (home_in hv hi).1]
  · rw [turned_loan hi]; unfold loanT; split <;> rfl
  · rw [turned_loan hi]
    unfold loanT
    rw [if_neg hk]
    exact ⟨cardT_eq (loan_move hv hi hk).1, rfl⟩
  · rw [turned_loan hi]
    unfold loanT
    rw [if_pos hk]
    obtain ⟨h3, h4, h5⟩ := loan_look hv hi hk
    refine ⟨slotT_eq h3, ?_⟩
    rcases h5 with h5 | ⟨h5, _⟩
    · simp [cardT, h5]
    · rw [if_neg (by omega)]; exact cardT_eq h5
end Go.Proofs.Ytlhobddaojdnoaa

namespace Go.Proofs.Ytlhobddaojdnoaa

theorem people_pair {c : Cab} (hv : c.valid = true) (a b d : Nat) : ∃ (A B A' B' : Nat) (e : Int), peopleE c = ((A : Int), (B : Int), e) ∧ peopleE (turned c a b d) = ((A' : Int), (B' : Int), e) ∧ A < 2 ^ 62 ∧ B < 2 ^ 62 ∧ A' < 2 ^ 62 ∧ B' < 2 ^ 62 ∧
    ∀ p : Nat, p < 8 → A.testBit p = A'.testBit (persT d p).toNat ∧ B.testBit p = B'.testBit (persT d p).toNat := by
  have t := turned_turn hv a b d
  by_cases hT : truths c = []
  · exact ⟨0, 0, 0, 0, 4, people_no hv hT, people_no t.xv (t.none hT), by decide, by decide, by decide, by decide, fun p _ => by simp⟩
  · exact ⟨ownS c, mayS c, ownS _, mayS _, 0, people_yes hv hT, people_yes t.xv (t.some hT), ownS_lt _, mayS_lt hv, ownS_lt _, mayS_lt t.xv, fun p hp => ⟨t.own hp, t.may hp⟩⟩
theorem blame_pair {c : Cab} (hv : c.valid = true) (a b d : Nat) : blameE (turned c a b d) = blameE c := by
  have t := turned_turn hv a b d
  by_cases hT : truths c = []
  · rw [blame_no hv hT, blame_no t.xv (t.none hT)]
  · rw [blame_yes hv hT, blame_yes t.xv (t.some hT), t.surely, t.can]
theorem setL_lt62 {c : Cab} (hv : c.valid = true) {i : Nat} (hi : i < c.homes.length) : setL (whereL c i) < 2 ^ 62 := by
  have h1 := where_lt hv hi
  have h2 := valid_slots hv
  have h3 : 2 ^ c.slots.toNat ≤ 2 ^ 62 := Nat.pow_le_pow_right (by decide) (by omega)
  omega
theorem card_ok {c : Cab} {i : Nat} (hi : i < c.homes.length) : c.card (i : Int) = true := by simp [Cab.card, inR]; omega
theorem where_pair {c : Cab} (hv : c.valid = true) (a b d : Nat) {i : Nat} (hi : i < c.homes.length) : ∃ (S S' : Nat) (o : Bool) (e : Int), whereE c i = ((S : Int), o, e) ∧ whereE (turned c a b d) (cardT c.homes.length a i) = ((S' : Int), o, e) ∧ S < 2 ^ 62 ∧ S' < 2 ^ 62 ∧
    ∀ s : Nat, (s : Int) < c.slots → S.testBit s = S'.testBit (slotT c.slots b s).toNat := by
  have t := turned_turn hv a b d
  have hf := (fT_fin (a := a) hi).1
  have hfx : fT c.homes.length a i < (turned c a b d).homes.length := by rw [turned_len]; exact hf
  rw [cardT_eq (by omega), Int.toNat_natCast]
  by_cases hT : truths c = []
  · exact ⟨0, 0, false, 4, where_no hv hT (card_ok hi), where_no t.xv (t.none hT) (card_ok hfx), by decide, by decide, fun s _ => by simp⟩
  · refine ⟨_, _, outL (whereL c i), 0, where_yes hv hT (card_ok hi), ?_, setL_lt62 hv hi, setL_lt62 t.xv hfx, fun s hs => ?_⟩
    · rw [where_yes t.xv (t.some hT) (card_ok hfx), t.outS hi]
    · rw [slotT_eq (by omega)]
      exact t.whereS hi hs
end Go.Proofs.Ytlhobddaojdnoaa

