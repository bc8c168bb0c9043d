/- Lists gathered by append, handed on and returned; the drawn region of the reference's slots. What the laws need to know of the cheapest plan: plain law. More room, fewer spoiled sheets, more wanted: plain law. -/
import Derived.Test.YtjkhclijmcmdjaaC15
namespace Go.Proofs.Ytjkhclijmcmdjaa
open Go.RowKit
set_option linter.unusedVariables false
set_option linter.unusedSimpArgs false
/-- Numbers that lie in memory of their own stay. -/
theorem WyPost.ints {B B' : Nat} {l l0 : List (List Int)} {A A' : World} {vo v' : Value} {n : Nat} {vp : Value} {xs : List Value} (h : WyPost B l A vo v' A') (hr : RowsAt A B vo l0) (hp : A.ownsRow B' 3 1 vp n xs) : A'.ownsRow B' 3 1 vp n xs := by
  obtain ⟨vs, h1, _⟩ := hr
  refine own_blocks hp (fun g hg => h.grown.block g (hp.lt g hg).2 (fun e => own_apart hp h1 (by decide) g hg e.symm))
/-- A fresh copy. -/
theorem copy_new {W w : World} {av : Option Addr} {pre : List Int} {cv : Nat} {xs : Value} (hk : pre.length ≤ 16) (hb : Below W.heap.size W w) (hx : w.ownsRow W.heap.size 3 1 xs 0 []) (hi : IsInts w av pre) :
    ∃ (r1 : Option Addr × Nat) (w' : World), (Builtin.append_ #[24, 24] 24 #[xs, .slice av pre.length cv]).run Try.prog w = .ok (.slice r1.1 pre.length r1.2) w' ∧ Below W.heap.size W w' ∧ w'.ownsRow W.heap.size 3 1 (.slice r1.1 pre.length r1.2) pre.length (pre.map (Value.int .i64)) ∧
      (∀ k, k < w.heap.size → xs.ownBlock ≠ some k → w'.heap[k]? = w.heap[k]? ∧ (Value.slice r1.1 pre.length r1.2).ownBlock ≠ some k) := by
  obtain ⟨i0, hi0, hz0, hz1, hz2⟩ := info_parts infoI
  obtain ⟨v', w', hr, hn, hg, hor⟩ := append_rows_at (P := Try.prog) (w := w) W.heap.size 24 24 3 i0 _ 1 8 Try.underlying24 hi0 hz0 hz1 hz2 rfl (by decide) xs 0 [] hx av pre.length cv (pre.map (Value.int .i64)) (by simp) (ints_news hi) (by intro u hu; simp at hu; obtain ⟨x, _, rfl⟩ := hu; rfl) (by simp [maxLen]; omega) (by omega) hb.size
  rw [Nat.zero_add, List.nil_append] at hn
  obtain ⟨a', c', rfl, _⟩ := own_slice hn
  refine ⟨(a', c'), w', hr, hb.grown hg hb.size (fun k hk => (hx.lt k hk).1), hn, fun k hk hne => ⟨hg.block k hk (fun e => hne e.symm), fun e => ?_⟩⟩
  rcases hor with h | h
  · rw [h] at e; exact hne e
  · rw [h] at e; cases e; omega
theorem ownsRow_zero {w : World} {B : Nat} (h : B ≤ w.heap.size) : (w.alloc (.cells #[] 3)).ownsRow B 3 1 (.slice (some ⟨w.heap.size, 0, none⟩) 0 0) 0 [] := World.ownsRow_made (e := 3) (size := 1) w #[] 0 (base := B) h (by simp [maxLen]) (by simp)
end Go.Proofs.Ytjkhclijmcmdjaa
namespace Go.Proofs.Ytjkhclijmcmdjaa
set_option linter.unusedVariables false
set_option linter.unusedSimpArgs false
theorem open_ok {p : Prs} (hV : p.valid = true) {b : Bool} : p.openE b = if b then 0 else 2 := by
  unfold Prs.openE
  cases b <;> simp [hV]
theorem best_cases {p : Prs} (hV : p.valid = true) : (bestE p = ([], 0, 10) ∧ ∀ l, ¬ p.Sure l) ∨ ∃ b, bestE p = (b, p.cost b, 0) ∧ p.Sure b ∧ ∀ l, p.Sure l → cmpL (p.key b) (p.key l) ≤ 0 := by
  rcases best_law hV with ⟨h1, h2⟩ | ⟨b, h1, h2, h3⟩
  · left
    refine ⟨?_, h2⟩
    unfold bestE
    rw [open_ok hV]
    simp [h1]
  · right
    refine ⟨b, ?_, h2, h3⟩
    unfold bestE
    rw [open_ok hV]
    simp [h1]
end Go.Proofs.Ytjkhclijmcmdjaa
namespace Go.Proofs.Ytjkhclijmcmdjaa
set_option linter.unusedVariables false
set_option linter.unusedSimpArgs false
/-- What surely gives in one press does in another one, and costs as much. -/
structure Sub (p q : Prs) : Prop where
  sure : ∀ l, p.Sure l → q.Sure l
  make : p.make = q.make
  sheet : p.sheet = q.sheet
theorem Sub.cost {p q : Prs} (h : Sub p q) (l : List Fme) : p.cost l = q.cost l := by
  unfold Prs.cost
  rw [h.make, h.sheet]
theorem best_sub {p q : Prs} (hp : p.valid = true) (hq : q.valid = true) (h : Sub p q) : ∃ l a e m b g, bestE p = (l, a, e) ∧ bestE q = (m, b, g) ∧ (e = 0 ∨ e = 10) ∧ (g = 0 ∨ g = 10) ∧ (e = 0 → g = 0 ∧ b ≤ a) := by
  rcases best_cases hp with ⟨h1, h2⟩ | ⟨x, h1, h2, h3⟩ <;> rcases best_cases hq with ⟨g1, g2⟩ | ⟨y, g1, g2, g3⟩
  · exact ⟨_, _, _, _, _, _, h1, g1, .inr rfl, .inr rfl, fun h => by omega⟩
  · exact ⟨_, _, _, _, _, _, h1, g1, .inr rfl, .inl rfl, fun h => by omega⟩
  · exact absurd (h.sure x h2) (g2 x)
  · refine ⟨_, _, _, _, _, _, h1, g1, .inl rfl, .inl rfl, fun _ => ⟨rfl, ?_⟩⟩
    have := key_le.1 (g3 x (h.sure x h2))
    rw [h.cost x]
    omega
structure MoreR (p q : Prs) (less : Bool) : Prop where
  vp : p.valid = true
  vq : q.valid = true
  yes : less = true → Sub p q
  no : less = false → Sub q p
  len : q.wanted.length = p.wanted.length
  good : ∀ n, 0 ≤ n → n ≤ 1048576 → (p.good n).lo ≤ (q.good n).lo ∧ (q.good n).hi = (p.good n).hi
def Prs.bare (p : Prs) : Prs := { p with deals := [] }
theorem bare_valid {p : Prs} (hV : p.valid = true) : p.bare.valid = true := by
  unfold Prs.valid at hV ⊢
  simp only [Bool.and_eq_true] at hV ⊢
  refine ⟨⟨⟨⟨?_, hV.1.1.1.2⟩, hV.1.1.2⟩, hV.1.2⟩, rfl⟩
  have h := hV.1.1.1.1
  unfold Prs.sizeOk at h ⊢
  simp only [Bool.and_eq_true] at h ⊢
  exact ⟨h.1, by simp [Prs.bare]⟩
def Prs.roomy (p : Prs) : Prs := { p.bare with room := min 6 (p.room + 1) }
def Prs.neat (p : Prs) (k : Int) : Prs := { p.bare with shi := max p.slo (p.shi - k) }
def Prs.keen (p : Prs) (v : Nat) (k : Int) : Prs := { p.bare with wanted := p.wanted.set v (min 60 (gi p.wanted v + k)) }
theorem gi_set_at {l : List Int} {i : Nat} (h : i < l.length) (x : Int) : gi (l.set i x) i = x := by
  unfold gi; rw [List.getD_eq_getElem?_getD, List.getElem?_set]; simp [h]
theorem gi_set_off {l : List Int} {i j : Nat} (h : i ≠ j) (x : Int) : gi (l.set i x) j = gi l j := by
  unfold gi; rw [List.getD_eq_getElem?_getD, List.getElem?_set, if_neg h, ← List.getD_eq_getElem?_getD]
theorem room_more {p : Prs} (hV : p.valid = true) : MoreR p.bare p.roomy true := by
  have hb := bare_valid hV
  have hr := room_of hV
  have hv : p.roomy.valid = true := by
    unfold Prs.valid at hb ⊢
    simp only [Bool.and_eq_true] at hb ⊢
    refine ⟨⟨⟨⟨?_, hb.1.1.1.2⟩, hb.1.1.2⟩, hb.1.2⟩, rfl⟩
    have h := hb.1.1.1.1
    unfold Prs.sizeOk at h ⊢
    simp only [Bool.and_eq_true, inR, decide_eq_true_eq] at h ⊢
    have e : p.roomy.room = min 6 (p.room + 1) := rfl
    exact ⟨⟨⟨by rw [e]; omega, h.1.1.2⟩, h.1.2⟩, h.2⟩
  refine ⟨hb, hv, fun _ => ⟨fun l h => ⟨h.1, fun f hf => ?_, h.2.2⟩, rfl, rfl⟩, (fun h => by cases h), rfl, fun n _ _ => ⟨Int.le_refl _, rfl⟩⟩
  obtain ⟨h1, h2, h3, h4⟩ := fme_parts (h.2.1 f hf)
  have e : p.roomy.room = min 6 (p.room + 1) := rfl
  have e2 : p.bare.room = p.room := rfl
  rw [e2] at h3
  unfold fmeOk
  simp only [Bool.and_eq_true, decide_eq_true_eq, inR, List.all_eq_true]
  exact ⟨⟨⟨h1, fun z hz => h2 z hz⟩, h3.1, by rw [e]; omega⟩, h4⟩
theorem good_neat {p : Prs} (hV : p.valid = true) {k : Int} (hk : 0 ≤ k) {n : Int} (h0 : 0 ≤ n) : (p.bare.good n).lo ≤ ((p.neat k).good n).lo ∧ ((p.neat k).good n).hi = (p.bare.good n).hi := by
  have S := spoil_of hV
  refine ⟨?_, rfl⟩
  show n - (n * p.shi + 99) / 100 ≤ n - (n * (max p.slo (p.shi - k)) + 99) / 100
  have h1 := S.le
  have h2 : n * (max p.slo (p.shi - k)) ≤ n * p.shi := Int.mul_le_mul_of_nonneg_left (by omega) h0
  omega
theorem neat_more {p : Prs} (hV : p.valid = true) {k : Int} (hk : 0 ≤ k) : MoreR p.bare (p.neat k) true := by
  have hb := bare_valid hV
  have S := spoil_of hV
  have hv : (p.neat k).valid = true := by
    unfold Prs.valid at hb ⊢
    simp only [Bool.and_eq_true] at hb ⊢
    refine ⟨⟨⟨⟨hb.1.1.1.1, ?_⟩, hb.1.1.2⟩, hb.1.2⟩, rfl⟩
    unfold Prs.spoilOk
    simp only [Bool.and_eq_true, decide_eq_true_eq]
    have h1 := S.lo
    have h2 := S.le
    have h3 := S.hi
    have e1 : (p.neat k).slo = p.slo := rfl
    have e2 : (p.neat k).shi = max p.slo (p.shi - k) := rfl
    rw [e1, e2]
    omega
  refine ⟨hb, hv, fun _ => ⟨fun l h => ⟨h.1, h.2.1, few_no.2 fun v hv => ?_⟩, rfl, rfl⟩, (fun h => by cases h), rfl, fun n h0 _ => good_neat hV hk h0⟩
  have h1 := few_no.1 h.2.2 v hv
  refine Int.le_trans h1 ?_
  have hall := h.2.1
  clear h h1
  induction l with
  | nil => exact Int.le_refl _
  | cons f r ih =>
    have h2 := ih fun g hg => hall g (by simp [hg])
    have hf := hall f (by simp)
    have h3 : gi f.slots v * (p.bare.good f.times).lo ≤ gi f.slots v * ((p.neat k).good f.times).lo := Int.mul_le_mul_of_nonneg_left (good_neat hV hk (by have := (fme_parts hf).2.2.2; omega)).1 (fme_gi hf v)
    show gi f.slots v * (p.bare.good f.times).lo + p.bare.least r v ≤ gi f.slots v * ((p.neat k).good f.times).lo + (p.neat k).least r v
    omega
theorem keen_more {p : Prs} (hV : p.valid = true) {v : Nat} {k : Int} (hk : 0 ≤ k) (hv : v < p.wanted.length) : MoreR p.bare (p.keen v k) false := by
  have hb := bare_valid hV
  have hw := wants_bd hV hv
  have e : (p.keen v k).wanted = p.wanted.set v (min 60 (gi p.wanted v + k)) := rfl
  have hlen : (p.keen v k).wanted.length = p.wanted.length := by rw [e, List.length_set]
  have hval : (p.keen v k).valid = true := by
    unfold Prs.valid at hb ⊢
    simp only [Bool.and_eq_true] at hb ⊢
    refine ⟨⟨⟨⟨?_, hb.1.1.1.2⟩, ?_⟩, hb.1.2⟩, rfl⟩
    · have h := hb.1.1.1.1
      unfold Prs.sizeOk at h ⊢
      rw [hlen]
      exact h
    · have h := hb.1.1.2
      rw [List.all_eq_true] at h ⊢
      intro z hz
      rw [e] at hz
      rcases List.mem_or_eq_of_mem_set hz with hz | rfl
      · exact h z hz
      · simp only [inR, Bool.and_eq_true, decide_eq_true_eq]; omega
  refine ⟨hb, hval, (fun h => by cases h), fun _ => ⟨fun l h => ⟨h.1, fun f hf => ?_, few_no.2 fun u hu => ?_⟩, rfl, rfl⟩, hlen, fun n _ _ => ⟨Int.le_refl _, rfl⟩⟩
  · have h1 := h.2.1 f hf
    unfold fmeOk at h1 ⊢
    rw [hlen] at h1
    exact h1
  · have h1 := few_no.1 h.2.2 u (by rw [hlen]; exact hu)
    refine Int.le_trans ?_ h1
    rw [e]
    by_cases hu2 : v = u
    · subst hu2
      have h2 := wants_bd hV hv
      rw [gi_set_at hv]
      show gi p.wanted v ≤ _
      omega
    · rw [gi_set_off hu2]
      exact Int.le_refl _
end Go.Proofs.Ytjkhclijmcmdjaa
