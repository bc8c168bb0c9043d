/- The plain law of LendWrongs: as many that are wrong as are at least. -/
import Derived.Test.YtlhobddaojdnoaaL3
namespace Go.Proofs.Ytlhobddaojdnoaa

def allT (c : Cab) : List (List Int × List Bool) := truthsBy c anyRule c.loans c.loans.length
def leastN (c : Cab) : Nat := minL ((allT c).map fun x => wrongs x.2)
theorem minL_mem {l : List Nat} (h : l ≠ []) : minL l ∈ l ∧ ∀ x ∈ l, minL l ≤ x := by
  match l, h with
  | x :: r, _ =>
    unfold minL
    have aux : ∀ (r : List Nat) (x : Nat), (r.foldl min x = x ∨ r.foldl min x ∈ r) ∧ r.foldl min x ≤ x ∧ ∀ y ∈ r, r.foldl min x ≤ y := by
      intro r
      induction r with
      | nil => intro x; simp
      | cons y r ih =>
        intro x
        rw [List.foldl_cons]
        obtain ⟨h1, h2, h3⟩ := ih (min x y)
        refine ⟨?_, by omega, fun z hz => ?_⟩
        · rcases h1 with h1 | h1
          · rcases Nat.le_total x y with h | h
            · left; rw [h1]; omega
            · right; rw [h1]; have : min x y = y := by omega
              rw [this]; simp
          · right; simp [h1]
        · rcases List.mem_cons.1 hz with rfl | hz
          · omega
          · exact h3 z hz
    obtain ⟨h1, h2, h3⟩ := aux r x
    exact ⟨by rcases h1 with h | h <;> simp [h], fun z hz => (List.mem_cons.1 hz).elim (fun e => e ▸ h2) (h3 z)⟩
theorem allT_mem {c : Cab} {t : List Int} {bs : List Bool} : (t, bs) ∈ allT c ↔ (t, bs) ∈ paths c c.loans c.homes := by
  unfold allT
  rw [truths_mem]
  refine ⟨fun h => h.1, fun h => ⟨h, ?_⟩⟩
  have := paths_len c _ _ _ _ h
  have := wrongs_le bs
  omega
theorem truths_all {c : Cab} {W : Int} {t : List Int} {bs : List Bool} : (t, bs) ∈ truthsBy c anyRule c.loans W ↔ (t, bs) ∈ allT c ∧ (wrongs bs : Int) ≤ W := by
  rw [truths_mem, allT_mem]
theorem wrongsE_no {c : Cab} (hv : c.valid = true) (h : allT c = []) : wrongsE c = (0, 4) := by
  unfold wrongsE; unfold allT at h; simp [hv, h]
theorem wrongsE_yes {c : Cab} (hv : c.valid = true) (h : allT c ≠ []) : wrongsE c = ((leastN c : Int), 0) := by
  unfold wrongsE; unfold leastN; unfold allT at h ⊢; simp [hv, h]
theorem least_at {c : Cab} (h : allT c ≠ []) : ∃ t bs, (t, bs) ∈ allT c ∧ wrongs bs = leastN c := by
  have := (minL_mem (l := (allT c).map fun x => wrongs x.2) (by simpa using h)).1
  obtain ⟨⟨t, bs⟩, hx, he⟩ := List.mem_map.1 this
  exact ⟨t, bs, hx, he⟩
theorem least_le {c : Cab} {t : List Int} {bs : List Bool} (h : (t, bs) ∈ allT c) : leastN c ≤ wrongs bs := by
  have hm : wrongs bs ∈ (allT c).map fun x => wrongs x.2 := List.mem_map.2 ⟨(t, bs), h, rfl⟩
  exact (minL_mem (List.ne_nil_of_mem hm)).2 _ hm
theorem least_len {c : Cab} (h : allT c ≠ []) : leastN c ≤ c.loans.length := by
  obtain ⟨t, bs, h1, h2⟩ := least_at h
  have := paths_len c _ _ _ _ (allT_mem.1 h1)
  have := wrongs_le bs
  omega
theorem ne_of {c : Cab} {W : Int} : truthsBy c anyRule c.loans W ≠ [] ↔ allT c ≠ [] ∧ (leastN c : Int) ≤ W := by
  constructor
  · intro h
    obtain ⟨⟨t, bs⟩, hx⟩ := List.exists_mem_of_ne_nil _ h
    obtain ⟨h1, h2⟩ := truths_all.1 hx
    refine ⟨List.ne_nil_of_mem h1, ?_⟩
    have := least_le h1
    omega
  · rintro ⟨h1, h2⟩
    obtain ⟨t, bs, h3, h4⟩ := least_at h1
    exact List.ne_nil_of_mem (truths_all.2 ⟨h3, by rw [h4]; exact h2⟩)

/-- The same cabinet with another Wrong. -/
def withWrong (c : Cab) (n : Int) : Cab := { c with wrong := n }
theorem withWrong_valid {c : Cab} (hv : c.valid = true) {n : Int} (h : 0 ≤ n ∧ n ≤ 12) : (withWrong c n).valid = true := by
  have e1 : (withWrong c n).homesOk = c.homesOk := rfl
  have e2 : ∀ l, (withWrong c n).loanOk l = c.loanOk l := fun l => rfl
  have e3 : (withWrong c n).loans.all (withWrong c n).loanOk = c.loans.all c.loanOk := rfl
  simp only [Cab.valid, Bool.and_eq_true] at hv ⊢
  rw [e1, e3]
  refine ⟨⟨?_, hv.1.2⟩, hv.2⟩
  have h1 := hv.1.1
  have e4 : (withWrong c n).sizes = (inR c.slots 1 6 && decide (c.homes.length ≤ 5) && inR n 0 12 && decide (c.loans.length ≤ 12)) := rfl
  rw [e4]
  simp only [Cab.sizes, Bool.and_eq_true, decide_eq_true_eq] at h1 ⊢
  exact ⟨⟨h1.1.1, by simp [inR, h]⟩, h1.2⟩
theorem withWrong_by (c : Cab) (n : Int) (r : Rule) (ls : List Ln) (W : Int) : truthsBy (withWrong c n) r ls W = truthsBy c r ls W := truthsBy_congr (c := withWrong c n) (d := c) rfl rfl _ _ _
theorem withWrong_check_yes {c : Cab} (hv : c.valid = true) {n : Int} (h : 0 ≤ n ∧ n ≤ 12) (ha : allT c ≠ []) (hn : (leastN c : Int) ≤ n) : check (withWrong c n) = (0, 4) := by
  refine check_yes (withWrong_valid hv h) ?_
  show truthsBy (withWrong c n) anyRule c.loans n ≠ []
  rw [withWrong_by]
  exact ne_of.2 ⟨ha, hn⟩
theorem withWrong_check_no {c : Cab} (hv : c.valid = true) {n : Int} (h : 0 ≤ n ∧ n ≤ 12) (hn : n < (leastN c : Int)) : (check (withWrong c n)).2 = 0 := by
  refine check_no (withWrong_valid hv h) ?_
  show truthsBy (withWrong c n) anyRule c.loans n = []
  rw [withWrong_by]
  exact Decidable.byContradiction fun hh => by have := (ne_of.1 hh).2; omega

/-! ### who is to blame -/
def backs (c : Cab) : List Nat := (List.range c.loans.length).filter fun i => decide ((gl c.loans i).kind = 1)
def surelyS (c : Cab) : Nat := bitsOf ((backs c).filter fun (i : Nat) => (truthsBy c (mustRule i false) c.loans c.wrong).isEmpty)
def canS (c : Cab) : Nat := bitsOf ((backs c).filter fun (i : Nat) => !(truthsBy c (mustRule i true) c.loans c.wrong).isEmpty)
def ownS (c : Cab) : Nat := bitsOf ((List.range 8).filter fun (p : Nat) => (truthsBy c (honestRule p) c.loans c.wrong).isEmpty)
def mayS (c : Cab) : Nat := bitsOf (((backs c).filter fun (i : Nat) => !(truthsBy c (mustRule i true) c.loans c.wrong).isEmpty).map fun i => (gl c.loans i).person.toNat)
theorem blame_yes {c : Cab} (hv : c.valid = true) (h : truths c ≠ []) : blameE c = ((surelyS c : Int), (canS c : Int), 0) := by
  unfold blameE; rw [openE_yes hv h]; rfl
theorem blame_no {c : Cab} (hv : c.valid = true) (h : truths c = []) : blameE c = (0, 0, 4) := by
  unfold blameE; rw [openE_no hv h]; rfl
theorem people_yes {c : Cab} (hv : c.valid = true) (h : truths c ≠ []) : peopleE c = ((ownS c : Int), (mayS c : Int), 0) := by
  unfold peopleE; rw [openE_yes hv h]; rfl
theorem people_no {c : Cab} (hv : c.valid = true) (h : truths c = []) : peopleE c = (0, 0, 4) := by
  unfold peopleE; rw [openE_no hv h]; rfl

theorem mem_backs {c : Cab} {i : Nat} : i ∈ backs c ↔ i < c.loans.length ∧ (gl c.loans i).kind = 1 := by simp [backs]
theorem surely_test {c : Cab} {i : Nat} : (surelyS c).testBit i = true ↔ i < c.loans.length ∧ (gl c.loans i).kind = 1 ∧ ∀ t bs, (t, bs) ∈ truths c → gb bs i = true := by
  unfold surelyS
  rw [bitsOf_test, decide_eq_true_eq, List.mem_filter, mem_backs]
  constructor
  · rintro ⟨⟨h1, h2⟩, h3⟩
    refine ⟨h1, h2, fun t bs ht => ?_⟩
    cases hb : gb bs i with
    | true => rfl
    | false =>
      have := (must_ne h1 false).2 ⟨t, bs, ht, hb⟩
      simp at h3
      exact absurd h3 this
  · rintro ⟨h1, h2, h3⟩
    refine ⟨⟨h1, h2⟩, ?_⟩
    simp only [List.isEmpty_iff]
    refine Decidable.byContradiction fun hh => ?_
    obtain ⟨t, bs, ht, hb⟩ := (must_ne h1 false).1 hh
    rw [h3 t bs ht] at hb
    cases hb
theorem can_test {c : Cab} {i : Nat} : (canS c).testBit i = true ↔ i < c.loans.length ∧ ∃ t bs, (t, bs) ∈ truths c ∧ gb bs i = true := by
  unfold canS
  rw [bitsOf_test, decide_eq_true_eq, List.mem_filter, mem_backs]
  constructor
  · rintro ⟨⟨h1, h2⟩, h3⟩
    refine ⟨h1, (must_ne h1 true).1 (by simpa using h3)⟩
  · rintro ⟨h1, h3⟩
    have h4 := (must_ne h1 true).2 h3
    obtain ⟨t, bs, ht, hb⟩ := h3
    exact ⟨⟨h1, (wrong_back _ _ _ _ (truths_mem.1 ht).1 i hb).2⟩, by simpa using h4⟩
theorem can_kind {c : Cab} {i : Nat} (h : (canS c).testBit i = true) : (gl c.loans i).kind = 1 := by
  obtain ⟨_, t, bs, ht, hb⟩ := can_test.1 h
  exact (wrong_back _ _ _ _ (truths_mem.1 ht).1 i hb).2
theorem own_test {c : Cab} {p : Nat} : (ownS c).testBit p = true ↔ p < 8 ∧ ∀ t bs, (t, bs) ∈ truths c → ∃ i, i < c.loans.length ∧ (gl c.loans i).person = p ∧ gb bs i = true := by
  unfold ownS
  rw [bitsOf_test, decide_eq_true_eq, List.mem_filter, List.mem_range]
  constructor
  · rintro ⟨h1, h2⟩
    refine ⟨h1, fun t bs ht => Classical.byContradiction fun hh => ?_⟩
    have : truthsBy c (honestRule p) c.loans c.wrong ≠ [] := honest_ne.2 ⟨t, bs, ht, fun i hi hp => by
      cases hb : gb bs i with
      | false => rfl
      | true => exact absurd ⟨i, hi, hp, hb⟩ hh⟩
    simp at h2
    exact this h2
  · rintro ⟨h1, h2⟩
    refine ⟨h1, ?_⟩
    simp only [List.isEmpty_iff]
    refine Decidable.byContradiction fun hh => ?_
    obtain ⟨t, bs, ht, hb⟩ := honest_ne.1 hh
    obtain ⟨i, hi, hp, hx⟩ := h2 t bs ht
    rw [hb i hi hp] at hx
    cases hx
theorem may_test {c : Cab} {p : Nat} : (mayS c).testBit p = true ↔ ∃ i, (canS c).testBit i = true ∧ (gl c.loans i).person.toNat = p := by
  unfold mayS canS
  rw [bitsOf_test, decide_eq_true_eq, List.mem_map]
  constructor
  · rintro ⟨i, h1, h2⟩; exact ⟨i, by rw [bitsOf_test, decide_eq_true_eq]; exact h1, h2⟩
  · rintro ⟨i, h1, h2⟩; rw [bitsOf_test, decide_eq_true_eq] at h1; exact ⟨i, h1, h2⟩
theorem person_rng {c : Cab} (hv : c.valid = true) {i : Nat} (hi : i < c.loans.length) (hk : (gl c.loans i).kind = 1) : 0 ≤ (gl c.loans i).person ∧ (gl c.loans i).person ≤ 7 := by
  simp only [Cab.valid, Bool.and_eq_true, List.all_eq_true] at hv
  have := hv.2 (gl c.loans i) (by simp [gl, hi])
  simp only [Cab.loanOk, hk] at this
  simp [Cab.lent, inR] at this
  omega
theorem surely_can {c : Cab} (hT : truths c ≠ []) {i : Nat} (h : (surelyS c).testBit i = true) : (canS c).testBit i = true := by
  obtain ⟨h1, _, h3⟩ := surely_test.1 h
  obtain ⟨⟨t, bs⟩, ht⟩ := List.exists_mem_of_ne_nil _ hT
  exact can_test.2 ⟨h1, t, bs, ht, h3 t bs ht⟩
theorem own_may {c : Cab} (hT : truths c ≠ []) {p : Nat} (h : (ownS c).testBit p = true) : (mayS c).testBit p = true := by
  obtain ⟨_, h2⟩ := own_test.1 h
  obtain ⟨⟨t, bs⟩, ht⟩ := List.exists_mem_of_ne_nil _ hT
  obtain ⟨i, hi, hp, hb⟩ := h2 t bs ht
  exact may_test.2 ⟨i, can_test.2 ⟨hi, t, bs, ht, hb⟩, by omega⟩
theorem sure_own {c : Cab} (hv : c.valid = true) {i : Nat} (h : (surelyS c).testBit i = true) : (ownS c).testBit (gl c.loans i).person.toNat = true := by
  obtain ⟨h1, h2, h3⟩ := surely_test.1 h
  have := person_rng hv h1 h2
  exact own_test.2 ⟨by omega, fun t bs ht => ⟨i, h1, by omega, h3 t bs ht⟩⟩
theorem surelyS_lt (c : Cab) (hl : c.loans.length ≤ 12) : surelyS c < 2 ^ 62 := by
  have : surelyS c < 2 ^ 12 := bitsOf_lt (fun j hj => by
    have := mem_backs.1 (List.mem_filter.1 hj).1
    omega)
  omega
theorem canS_lt (c : Cab) (hl : c.loans.length ≤ 12) : canS c < 2 ^ 62 := by
  have : canS c < 2 ^ 12 := bitsOf_lt (fun j hj => by
    have := mem_backs.1 (List.mem_filter.1 hj).1
    omega)
  omega
theorem ownS_lt (c : Cab) : ownS c < 2 ^ 62 := by
  have : ownS c < 2 ^ 8 := bitsOf_lt (fun j hj => List.mem_range.1 (List.mem_filter.1 hj).1)
  omega
theorem mayS_lt {c : Cab} (hv : c.valid = true) : mayS c < 2 ^ 62 := by
  have : mayS c < 2 ^ 8 := bitsOf_lt (fun j hj => by
    obtain ⟨i, hi, rfl⟩ := List.mem_map.1 hj
    have h := mem_backs.1 (List.mem_filter.1 hi).1
    have := person_rng hv h.1 h.2
    omega)
  omega
/-- The persons of a set of loans, up to one. -/
def whoOf (c : Cab) (S k : Nat) : Nat := bitsOf (((List.range k).filter fun i => S.testBit i).map fun i => (gl c.loans i).person.toNat)
theorem whoOf_lt {c : Cab} (hv : c.valid = true) {S : Nat} (hS : ∀ i, S.testBit i = true → i < c.loans.length ∧ (gl c.loans i).kind = 1) (k : Nat) : whoOf c S k < 2 ^ 62 := by
  have : whoOf c S k < 2 ^ 8 := bitsOf_lt (fun j hj => by
    obtain ⟨i, hi, rfl⟩ := List.mem_map.1 hj
    have h := hS i (by simpa using (List.mem_filter.1 hi).2)
    have := person_rng hv h.1 h.2
    omega)
  omega
theorem whoOf_test {c : Cab} {S k p : Nat} : (whoOf c S k).testBit p = true ↔ ∃ i, i < k ∧ S.testBit i = true ∧ (gl c.loans i).person.toNat = p := by
  unfold whoOf
  rw [bitsOf_test]
  simp [and_assoc]
theorem whoOf_succ (c : Cab) (S k : Nat) : whoOf c S (k + 1) = if S.testBit k then whoOf c S k ||| 2 ^ (gl c.loans k).person.toNat else whoOf c S k := by
  unfold whoOf
  rw [List.range_succ, List.filter_append, List.map_append]
  cases h : S.testBit k
  · simp [h]
  · simp [h, bitsOf_snoc]
theorem who_may {c : Cab} : whoOf c (canS c) c.loans.length = mayS c := by
  apply Nat.eq_of_testBit_eq
  intro p
  rw [Bool.eq_iff_iff, whoOf_test, may_test]
  constructor
  · rintro ⟨i, _, h2, h3⟩; exact ⟨i, h2, h3⟩
  · rintro ⟨i, h2, h3⟩; exact ⟨i, (can_test.1 h2).1, h2, h3⟩
/-- With as many wrong as are at least, each truth has just as many. -/
theorem least_all {c : Cab} {t : List Int} {bs : List Bool} (h : (t, bs) ∈ truths (withWrong c (leastN c))) : wrongs bs = leastN c ∧ (t, bs) ∈ allT c := by
  have h' : (t, bs) ∈ truthsBy c anyRule c.loans (leastN c) := by rw [← withWrong_by c (leastN c)]; exact h
  obtain ⟨h1, h2⟩ := truths_all.1 h'
  have := least_le h1
  exact ⟨by omega, h1⟩
theorem least_blame {c : Cab} (ha : allT c ≠ []) :
    popc (surelyS (withWrong c (leastN c))) ≤ leastN c ∧ leastN c ≤ popc (canS (withWrong c (leastN c))) ∧ (leastN c = 0 → surelyS (withWrong c (leastN c)) = 0 ∧ canS (withWrong c (leastN c)) = 0) := by
  obtain ⟨t, bs, h1, h2⟩ := least_at ha
  have ht : (t, bs) ∈ truths (withWrong c (leastN c)) := by
    show (t, bs) ∈ truthsBy (withWrong c (leastN c)) anyRule c.loans (leastN c)
    rw [withWrong_by]
    exact truths_all.2 ⟨h1, by omega⟩
  have hlen := paths_len c _ _ _ _ (allT_mem.1 h1)
  have none : leastN c = 0 → canS (withWrong c (leastN c)) = 0 := fun h0 => by
    apply Nat.eq_of_testBit_eq
    intro i
    rw [Nat.zero_testBit]
    cases hb : (canS (withWrong c (leastN c))).testBit i with
    | false => rfl
    | true =>
      obtain ⟨h3, t', bs', ht', hb'⟩ := can_test.1 hb
      have := (least_all ht').1
      exfalso
      have hl := paths_len c _ _ _ _ (allT_mem.1 (least_all ht').2)
      have h5 : i < c.loans.length := h3
      have : 0 < wrongs bs' := by
        unfold wrongs
        rw [List.countP_pos_iff]
        exact ⟨bs'[i]'(by omega), List.getElem_mem _, by simpa [gb, show i < bs'.length by omega] using hb'⟩
      omega
  refine ⟨?_, ?_, fun h0 => ⟨?_, none h0⟩⟩
  · have := popc_le bs (surelyS (withWrong c (leastN c))) (fun i hi => (surely_test.1 hi).2.2 t bs ht)
    omega
  · have : wrongs bs ≤ popc (canS (withWrong c (leastN c))) := popc_ge bs _ (fun i hi => can_test.2 ⟨?_, t, bs, ht, hi⟩)
    · omega
    exact (wrong_back _ _ _ _ (allT_mem.1 h1) i hi).1
  · apply Nat.eq_of_testBit_eq
    intro i
    rw [Nat.zero_testBit]
    cases hb : (surelyS (withWrong c (leastN c))).testBit i with
    | false => rfl
    | true =>
      have := surely_can (List.ne_nil_of_mem ht) hb
      rw [none h0, Nat.zero_testBit] at this
      cases this
end Go.Proofs.Ytlhobddaojdnoaa
