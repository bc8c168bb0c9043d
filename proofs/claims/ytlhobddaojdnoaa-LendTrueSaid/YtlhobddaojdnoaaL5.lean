/- The plain law of LendMore: less can be, and more is sure. -/
import Derived.Test.YtlhobddaojdnoaaL4
namespace Go.Proofs.Ytlhobddaojdnoaa

/-- The second cabinet lets less be than the first one. -/
structure Fewer (c x : Cab) : Prop where
  cv : c.valid = true
  xv : x.valid = true
  slots : x.slots = c.slots
  homes : x.homes = c.homes
  truth : ∀ t bs', (t, bs') ∈ truths x → ∃ bs, (t, bs) ∈ truths c ∧ ∀ i, gb bs' i = gb bs i
  loan : ∀ i, i < c.loans.length → gl x.loans i = gl c.loans i
  len : c.loans.length ≤ x.loans.length
  ways : ∀ t bs', (t, bs') ∈ allT x → ∃ bs, (t, bs) ∈ allT c ∧ wrongs bs ≤ wrongs bs'
theorem Fewer.some {c x : Cab} (h : Fewer c x) (hT : truths x ≠ []) : truths c ≠ [] := by
  obtain ⟨⟨t, bs⟩, hx⟩ := List.exists_mem_of_ne_nil _ hT
  obtain ⟨bs', h1, _⟩ := h.truth t bs hx
  exact List.ne_nil_of_mem h1
theorem Fewer.surely {c x : Cab} (h : Fewer c x) {i : Nat} (hi : (surelyS c).testBit i = true) : (surelyS x).testBit i = true := by
  obtain ⟨h1, h2, h3⟩ := surely_test.1 hi
  refine surely_test.2 ⟨by have := h.len; omega, by rw [h.loan i h1]; exact h2, fun t bs' ht => ?_⟩
  obtain ⟨bs, h4, h5⟩ := h.truth t bs' ht
  rw [h5]
  exact h3 t bs h4
theorem Fewer.can {c x : Cab} (h : Fewer c x) {i : Nat} (hi : (canS x).testBit i = true) : (canS c).testBit i = true ∧ i < c.loans.length := by
  obtain ⟨h1, t, bs', ht, hb⟩ := can_test.1 hi
  obtain ⟨bs, h4, h5⟩ := h.truth t bs' ht
  rw [h5] at hb
  have h6 := (wrong_back _ _ _ _ (truths_mem.1 h4).1 i hb).1
  exact ⟨can_test.2 ⟨h6, t, bs, h4, hb⟩, h6⟩
theorem Fewer.own {c x : Cab} (h : Fewer c x) {p : Nat} (hp : (ownS c).testBit p = true) : (ownS x).testBit p = true := by
  obtain ⟨h1, h2⟩ := own_test.1 hp
  refine own_test.2 ⟨h1, fun t bs' ht => ?_⟩
  obtain ⟨bs, h4, h5⟩ := h.truth t bs' ht
  obtain ⟨i, hi, h6, h7⟩ := h2 t bs h4
  exact ⟨i, by have := h.len; omega, by rw [h.loan i hi]; exact h6, by rw [h5]; exact h7⟩
theorem Fewer.may {c x : Cab} (h : Fewer c x) {p : Nat} (hp : (mayS x).testBit p = true) : (mayS c).testBit p = true := by
  obtain ⟨i, h1, h2⟩ := may_test.1 hp
  obtain ⟨h3, h4⟩ := h.can h1
  exact may_test.2 ⟨i, h3, by rw [← h.loan i h4]; exact h2⟩

def awayL (c : Cab) : List Nat := (truths c).map fun x => away c x.1
theorem misplaced_yes {c : Cab} (hv : c.valid = true) (h : truths c ≠ []) : misplacedE c = (((minL (awayL c) : Int), (maxL (awayL c) : Int)), 0) := by
  unfold misplacedE; rw [openE_yes hv h]; rfl
theorem misplaced_no {c : Cab} (hv : c.valid = true) (h : truths c = []) : misplacedE c = ((0, 0), 4) := by
  unfold misplacedE; rw [openE_no hv h]; rfl
theorem foldl_max_le : ∀ (l : List Nat) (m n : Nat), l.foldl max m ≤ n ↔ m ≤ n ∧ ∀ x ∈ l, x ≤ n
  | [], m, n => by simp
  | y :: l, m, n => by
    rw [List.foldl_cons, foldl_max_le l]
    simp only [List.mem_cons, forall_eq_or_imp]
    constructor
    · rintro ⟨h1, h2⟩; exact ⟨by omega, by omega, h2⟩
    · rintro ⟨h1, h2, h3⟩; exact ⟨by omega, h3⟩
theorem maxL_bd {l : List Nat} {n : Nat} : maxL l ≤ n ↔ ∀ x ∈ l, x ≤ n := by
  unfold maxL; rw [foldl_max_le]; simp
theorem maxL_ge {l : List Nat} {x : Nat} (h : x ∈ l) : x ≤ maxL l := maxL_bd.1 (Nat.le_refl _) x h
theorem away_congr {c x : Cab} (h : x.homes = c.homes) (t : List Int) : away x t = away c t := by unfold away; rw [h]
theorem Fewer.span {c x : Cab} (h : Fewer c x) (hT : truths x ≠ []) : minL (awayL c) ≤ minL (awayL x) ∧ maxL (awayL x) ≤ maxL (awayL c) := by
  have sub : ∀ n, n ∈ awayL x → n ∈ awayL c := fun n hn => by
    obtain ⟨⟨t, bs'⟩, ht, rfl⟩ := List.mem_map.1 hn
    obtain ⟨bs, h4, _⟩ := h.truth t bs' ht
    exact List.mem_map.2 ⟨(t, bs), h4, (away_congr h.homes t).symm⟩
  have hx : awayL x ≠ [] := by simpa [awayL] using hT
  refine ⟨?_, maxL_bd.2 fun n hn => maxL_ge (sub n hn)⟩
  have := (minL_mem hx).1
  exact (minL_mem (List.ne_nil_of_mem (sub _ this))).2 _ (sub _ this)
theorem truths_allT {c : Cab} (hT : truths c ≠ []) : allT c ≠ [] := (ne_of.1 hT).1
theorem Fewer.least {c x : Cab} (h : Fewer c x) (hT : truths x ≠ []) : leastN c ≤ leastN x := by
  obtain ⟨t, bs', h1, h2⟩ := least_at (truths_allT hT)
  obtain ⟨bs, h3, h4⟩ := h.ways t bs' h1
  have := least_le h3
  omega
theorem Fewer.where_ {c x : Cab} (h : Fewer c x) {card : Nat} (hc : card < c.homes.length) :
    (∀ i, (setL (whereL x card)).testBit i = true → (setL (whereL c card)).testBit i = true) ∧ (outL (whereL x card) = true → outL (whereL c card) = true) := by
  refine ⟨fun i hi => ?_, fun ho => ?_⟩
  · obtain ⟨t, bs', ht, hg⟩ := (where_test h.xv (by rw [h.homes]; exact hc)).1 hi
    obtain ⟨bs, h4, _⟩ := h.truth t bs' ht
    exact (where_test h.cv hc).2 ⟨t, bs, h4, hg⟩
  · obtain ⟨t, bs', ht, hg⟩ := where_out.1 ho
    obtain ⟨bs, h4, _⟩ := h.truth t bs' ht
    exact where_out.2 ⟨t, bs, h4, hg⟩
theorem Fewer.less {c : Cab} (hv : c.valid = true) {n : Int} (h0 : 0 ≤ n) (hn : n ≤ c.wrong) : Fewer c (withWrong c n) := by
  have hw := valid_wrong hv
  refine ⟨hv, withWrong_valid hv ⟨h0, by omega⟩, rfl, rfl, fun t bs ht => ⟨bs, ?_, fun _ => rfl⟩, fun i _ => rfl, Nat.le_refl _, fun t bs ht => ⟨bs, ?_, Nat.le_refl _⟩⟩
  · have h1 : (t, bs) ∈ truthsBy c anyRule c.loans n := by rw [← withWrong_by c n]; exact ht
    obtain ⟨h2, h3⟩ := truths_mem.1 h1
    exact truths_mem.2 ⟨h2, by omega⟩
  · have h1 : (t, bs) ∈ truthsBy c anyRule c.loans c.loans.length := by rw [← withWrong_by c n]; exact ht
    exact h1
theorem Fewer.seen {c : Cab} (hv : c.valid = true) (hl : c.loans.length < 12) {slot card : Int} (hs : c.slotOf slot = true) (hc : card = -1 ∨ c.card card = true) : Fewer c (addLook c slot card) := by
  refine ⟨hv, addLook_valid hv hl hs hc, rfl, rfl, fun t bs ht => ?_, fun i hi => ?_, by simp [addLook], fun t bs ht => ?_⟩
  · obtain ⟨bs', rfl, h1, _⟩ := addLook_mem.1 ht
    refine ⟨bs', h1, fun i => ?_⟩
    have := paths_len c _ _ _ _ (truths_mem.1 h1).1
    unfold gb
    rw [List.getD_eq_getElem?_getD, List.getD_eq_getElem?_getD]
    by_cases hi : i < bs'.length
    · rw [List.getElem?_append_left hi]
    · rw [List.getElem?_append_right (by omega), List.getElem?_eq_none (l := bs') (by omega)]
      by_cases he : i = bs'.length
      · subst he; simp
      · rw [List.getElem?_eq_none (by simp; omega)]
  · unfold gl addLook
    rw [List.getD_eq_getElem?_getD, List.getD_eq_getElem?_getD, List.getElem?_append_left hi]
  · have h1 := allT_mem.1 ht
    have h2 : (t, bs) ∈ paths c (c.loans ++ [⟨2, card, 0, slot⟩]) c.homes := by rw [paths_congr (c := c) (d := addLook c slot card) rfl rfl]; exact h1
    obtain ⟨s, bs', b, h3, h4, rfl⟩ := (paths_snoc c _ _ _ t bs).1 h2
    unfold step at h4
    dsimp only at h4
    rw [if_neg (by decide), if_neg (by decide)] at h4
    split at h4
    · simp only [List.mem_singleton, Prod.mk.injEq] at h4
      obtain ⟨rfl, rfl⟩ := h4
      exact ⟨bs', allT_mem.2 h3, by rw [wrongs_snoc]; simp⟩
    · simp at h4
end Go.Proofs.Ytlhobddaojdnoaa
