/- Lists gathered by append, handed on and returned; the drawn region of the reference's slots. What the laws need to know of the cheapest plan: plain law. What is enough at first: plain law. Views told the other way round: plain law. Lists told backwards; deals that are gathered. StockTurned from region 17 on. StockTurned from region 7 on. StockTurned's walk. The row's last step where the call leaves a world of which only what lay there before is known. Presses and formes that are handed in, opened. -/
import Derived.Test.YtjkhclijmcmdjaaC15
import Derived.Below
import Derived.ChangeSame
import Derived.ProofKit
import Derived.Test.YtjkhclijmcmdjaaProg
import Derived.Deep.Slices
import Derived.Deep.Fields
import Derived.Lib.SmallJoins
import Derived.Carry
import Derived.OpenShut
namespace Go.Proofs.Ytjkhclijmcmdjaa
open Go.RowKit
set_option linter.unusedVariables false
set_option linter.unusedSimpArgs false
/-- A fresh copy. -/
theorem copy_new {W w : World} {av : Option Addr} {pre : List Int} {cv : Nat} {xs : Value} (hk : pre.length ≤ 16) (hb : Below W.heap.size W w) (hx : w.ownsRow W.heap.size 3 1 xs 0 []) (hi : IsInts w av pre) :
    ∃ (r1 : Option Addr × Nat) (w' : World), (Builtin.append_ #[24, 24] 24 #[xs, .slice av pre.length cv]).run Try.prog w = .ok (.slice r1.1 pre.length r1.2) w' ∧ Below W.heap.size W w' ∧ w'.ownsRow W.heap.size 3 1 (.slice r1.1 pre.length r1.2) pre.length (pre.map (Value.int .i64)) ∧
      (∀ k, k < w.heap.size → xs.ownBlock ≠ some k → w'.heap[k]? = w.heap[k]? ∧ (Value.slice r1.1 pre.length r1.2).ownBlock ≠ some k) := by
  obtain ⟨i0, hi0, hz0, hz1, hz2⟩ := info_parts infoI
  obtain ⟨v', w', hr, hn, hg, hor⟩ := append_rows_at (P := Try.prog) (w := w) W.heap.size 24 24 3 i0 _ 1 8 Try.underlying24 hi0 hz0 hz1 hz2 rfl (by decide) xs 0 [] hx av pre.length cv (pre.map (Value.int .i64)) (by simp) (ints_news hi) (by intro u hu; simp at hu; obtain ⟨x, _, rfl⟩ := hu; rfl) (by simp [maxLen]; omega) (by omega) hb.size
  rw [Nat.zero_add, List.nil_append] at hn
  obtain ⟨a', c', rfl, _⟩ := own_slice hn
  refine ⟨(a', c'), w', hr, hb.grown hg hb.size (fun k hk => (hx.lt k hk).1), hn, fun k hk hne => ⟨hg.block k hk (fun e => hne e.symm), fun e => ?_⟩⟩
  rcases hor with h | h
  · rw [h] at e; exact hne e
  · rw [h] at e; cases e; omega
theorem ownsRow_zero {w : World} {B : Nat} (h : B ≤ w.heap.size) : (w.alloc (.cells #[] 3)).ownsRow B 3 1 (.slice (some ⟨w.heap.size, 0, none⟩) 0 0) 0 [] := World.ownsRow_made (e := 3) (size := 1) w #[] 0 (base := B) h (by simp [maxLen]) (by simp)
end Go.Proofs.Ytjkhclijmcmdjaa
namespace Go.Proofs.Ytjkhclijmcmdjaa
set_option linter.unusedVariables false
set_option linter.unusedSimpArgs false
theorem open_ok {p : Prs} (hV : p.valid = true) {b : Bool} : p.openE b = if b then 0 else 2 := by
  unfold Prs.openE
  cases b <;> simp [hV]
theorem best_cases {p : Prs} (hV : p.valid = true) : (bestE p = ([], 0, 10) ∧ ∀ l, ¬ p.Sure l) ∨ ∃ b, bestE p = (b, p.cost b, 0) ∧ p.Sure b ∧ ∀ l, p.Sure l → cmpL (p.key b) (p.key l) ≤ 0 := by
  rcases best_law hV with ⟨h1, h2⟩ | ⟨b, h1, h2, h3⟩
  · left
    refine ⟨?_, h2⟩
    unfold bestE
    rw [open_ok hV]
    simp [h1]
  · right
    refine ⟨b, ?_, h2, h3⟩
    unfold bestE
    rw [open_ok hV]
    simp [h1]
end Go.Proofs.Ytjkhclijmcmdjaa
namespace Go.Proofs.Ytjkhclijmcmdjaa
set_option linter.unusedVariables false
set_option linter.unusedSimpArgs false
theorem deals_ok {p : Prs} (hV : p.valid = true) : ∀ d ∈ p.deals, dealOk p d = true := by
  unfold Prs.valid at hV
  simp only [Bool.and_eq_true, List.all_eq_true] at hV
  exact hV.2
end Go.Proofs.Ytjkhclijmcmdjaa
namespace Go.Proofs.Ytjkhclijmcmdjaa
set_option linter.unusedVariables false
set_option linter.unusedSimpArgs false
def Fme.back (f : Fme) : Fme := ⟨f.slots.reverse, f.times⟩
def Dl.back (n : Nat) (d : Dl) : Dl := ⟨d.kind, d.forme.back, if d.kind = 2 then (n : Int) - 1 - d.view else d.view, d.many, d.pence⟩
def Prs.turn (p : Prs) : Prs := { p with wanted := p.wanted.reverse, deals := p.deals.map (Dl.back p.wanted.length) }
def Shf.back (s : Shf) : Shf := ⟨s.paper, s.money, s.cards.reverse⟩
theorem gi_rev {l : List Int} {v : Nat} (h : v < l.length) : gi l.reverse v = gi l (l.length - 1 - v) := by
  unfold gi
  rw [List.getD_eq_getElem?_getD, List.getD_eq_getElem?_getD, List.getElem?_reverse h]
theorem gs_rev {l : List Spn} {v : Nat} (h : v < l.length) : gs l.reverse v = gs l (l.length - 1 - v) := by
  unfold gs
  rw [List.getD_eq_getElem?_getD, List.getD_eq_getElem?_getD, List.getElem?_reverse h]
theorem sumL_app : ∀ a b : List Int, sumL (a ++ b) = sumL a + sumL b
  | [], b => by show sumL b = 0 + sumL b; omega
  | x :: a, b => by
    rw [List.cons_append]
    show x + sumL (a ++ b) = x + sumL a + sumL b
    rw [sumL_app a b]
    omega
theorem sumL_rev : ∀ a : List Int, sumL a.reverse = sumL a
  | [] => rfl
  | x :: a => by
    rw [List.reverse_cons, sumL_app, sumL_rev a]
    show sumL a + (x + 0) = x + sumL a
    omega
theorem fme_back (p : Prs) (f : Fme) : fmeOk p.turn f.back = fmeOk p f := by
  unfold fmeOk
  have e1 : f.back.slots = f.slots.reverse := rfl
  have e2 : p.turn.wanted = p.wanted.reverse := rfl
  rw [e1, e2, List.length_reverse, List.length_reverse, List.all_reverse, sumL_rev]
  rfl
theorem deal_back (p : Prs) (d : Dl) : dealOk p.turn (d.back p.wanted.length) = dealOk p d := by
  unfold dealOk
  have e0 : (d.back p.wanted.length).kind = d.kind := rfl
  have e1 : (d.back p.wanted.length).forme = d.forme.back := rfl
  have e2 : p.turn.wanted.length = p.wanted.length := List.length_reverse
  rw [e0, e1, fme_back, e2]
  by_cases h2 : d.kind = 2
  · have e3 : (d.back p.wanted.length).view = (p.wanted.length : Int) - 1 - d.view := by unfold Dl.back; rw [if_pos h2]
    rw [if_neg (by omega), if_neg (by omega), if_pos h2, if_neg (by omega), if_neg (by omega), e3]
    have e4 : inR ((p.wanted.length : Int) - 1 - d.view) 0 ((p.wanted.length : Int) - 1) = inR d.view 0 ((p.wanted.length : Int) - 1) := by
      unfold inR
      rw [Bool.eq_iff_iff]
      simp only [Bool.and_eq_true, decide_eq_true_eq]
      omega
    rw [e4, if_pos h2]
    rfl
  · rw [if_neg h2, if_neg h2]
    rfl
theorem turn_valid {p : Prs} (hV : p.valid = true) : p.turn.valid = true := by
  unfold Prs.valid at hV ⊢
  simp only [Bool.and_eq_true] at hV ⊢
  have e1 : p.turn.wanted = p.wanted.reverse := rfl
  have e2 : p.turn.deals = p.deals.map (Dl.back p.wanted.length) := rfl
  refine ⟨⟨⟨⟨?_, hV.1.1.1.2⟩, ?_⟩, hV.1.2⟩, ?_⟩
  · have h := hV.1.1.1.1
    unfold Prs.sizeOk at h ⊢
    rw [e1, e2, List.length_reverse, List.length_map]
    exact h
  · rw [e1, List.all_reverse]; exact hV.1.1.2
  · rw [e2, List.all_map]
    have h := hV.2
    rw [List.all_eq_true] at h ⊢
    intro d hd
    show dealOk p.turn (d.back p.wanted.length) = true
    rw [deal_back]
    exact h d hd
theorem back_back (n : Nat) (d : Dl) : (d.back n).back n = d := by
  cases d with
  | mk k f v m q =>
    cases f with
    | mk s t =>
      unfold Dl.back Fme.back
      by_cases h : k = 2
      · simp [h]; omega
      · simp [h]
theorem turn_turn (p : Prs) : p.turn.turn = p := by
  cases p with
  | mk room formes slo shi make sheet wanted paper money deals =>
    unfold Prs.turn
    simp only [List.reverse_reverse, List.length_reverse, List.map_map]
    congr 1
    have : (Dl.back wanted.length ∘ Dl.back wanted.length) = id := by
      funext d
      exact back_back _ _
    rw [this, List.map_id]
theorem gives_back {p : Prs} {f : Fme} {v : Nat} (hl : f.slots.length = p.wanted.length) (hv : v < p.wanted.length) : p.turn.gives f.back v = p.gives f (p.wanted.length - 1 - v) := by
  show (⟨gi f.slots.reverse v * (p.good f.times).lo, gi f.slots.reverse v * (p.good f.times).hi⟩ : Spn) = _
  rw [gi_rev (by omega), hl]
  rfl
theorem least_back {p : Prs} {v : Nat} (hv : v < p.wanted.length) : ∀ {l : List Fme}, (∀ f ∈ l, fmeOk p f = true) → p.turn.least (l.map Fme.back) v = p.least l (p.wanted.length - 1 - v)
  | [], _ => rfl
  | f :: r, h => by
    have h1 := least_back hv (l := r) fun g hg => h g (by simp [hg])
    show (p.turn.gives f.back v).lo + p.turn.least (r.map Fme.back) v = (p.gives f (p.wanted.length - 1 - v)).lo + p.least r (p.wanted.length - 1 - v)
    rw [h1, gives_back (fme_parts (h f (by simp))).1 hv]
theorem sure_back {p : Prs} {l : List Fme} (h : p.Sure l) : p.turn.Sure (l.map Fme.back) := by
  refine ⟨by rw [List.length_map]; exact h.1, fun g hg => ?_, few_no.2 fun v hv => ?_⟩
  · rw [List.mem_map] at hg
    obtain ⟨f, hf, rfl⟩ := hg
    rw [fme_back]
    exact h.2.1 f hf
  · have e : p.turn.wanted = p.wanted.reverse := rfl
    rw [e, List.length_reverse] at hv
    rw [least_back hv h.2.1, e, gi_rev hv]
    exact few_no.1 h.2.2 _ (by omega)
theorem cost_back (p : Prs) : ∀ l : List Fme, p.turn.cost (l.map Fme.back) = p.cost l
  | [] => rfl
  | f :: r => by
    rw [List.map_cons]
    show p.make + p.sheet * f.times + p.turn.cost (r.map Fme.back) = p.make + p.sheet * f.times + p.cost r
    rw [cost_back p r]
/-- The cheapest plan of both. -/
theorem best_turn {p : Prs} (hV : p.valid = true) : ∃ l a e m, bestE p = (l, a, e) ∧ bestE p.turn = (m, a, e) ∧ l.length = m.length := by
  have hT := turn_valid hV
  rcases best_cases hV with ⟨h1, h2⟩ | ⟨x, h1, h2, h3⟩ <;> rcases best_cases hT with ⟨g1, g2⟩ | ⟨y, g1, g2, g3⟩
  · exact ⟨_, _, _, _, h1, g1, rfl⟩
  · have := sure_back g2
    rw [turn_turn] at this
    exact absurd this (h2 _)
  · exact absurd (sure_back h2) (g2 _)
  · have a1 := key_le.1 (g3 _ (sure_back h2))
    have hb := sure_back g2
    rw [turn_turn] at hb
    have a2 := key_le.1 (h3 _ hb)
    rw [cost_back, List.length_map] at a1
    have c2 : p.cost (y.map Fme.back) = p.turn.cost y := by
      have := cost_back p.turn y
      rwa [turn_turn] at this
    rw [c2, List.length_map] at a2
    refine ⟨x, p.cost x, 0, y, h1, ?_, by omega⟩
    rw [g1, show p.turn.cost y = p.cost x by omega]
theorem set_rev {l : List Spn} {v : Nat} (h : v < l.length) (x : Spn) : l.reverse.set (l.length - 1 - v) x = (l.set v x).reverse := by
  apply List.ext_getElem?
  intro i
  by_cases hi : i < l.length
  · rw [List.getElem?_set, List.getElem?_reverse hi, List.getElem?_reverse (l := l.set v x) (by rw [List.length_set]; exact hi), List.length_set, List.getElem?_set]
    by_cases e : l.length - 1 - v = i
    · rw [if_pos e, if_pos (by rw [List.length_reverse]; omega), if_pos (by omega), if_pos h]
    · rw [if_neg e, if_neg (by omega)]
  · rw [List.getElem?_eq_none (by simp; omega), List.getElem?_eq_none (by simp; omega)]
theorem deal_turn {p : Prs} {s : Shf} {d : Dl} (hd : dealOk p d = true) (hl : s.cards.length = p.wanted.length) : p.turn.deal s.back (d.back p.wanted.length) = (p.deal s d).map Shf.back := by
  unfold Prs.deal
  have k0 : (d.back p.wanted.length).kind = d.kind := rfl
  rw [k0]
  by_cases h0 : d.kind = 0
  · rw [if_pos h0, if_pos h0]
    show (if s.money < d.pence then none else some (⟨s.paper + d.many, s.money - d.pence, s.cards.reverse⟩ : Shf)) = _
    split <;> rfl
  · by_cases h1 : d.kind = 1
    · have hF : fmeOk p d.forme = true := by unfold dealOk at hd; rw [if_neg h0, if_pos h1] at hd; exact hd
      rw [if_neg h0, if_pos h1, if_neg h0, if_pos h1]
      show (if s.money < p.make ∨ s.paper < d.forme.times then none else some (⟨s.paper - d.forme.times, s.money - p.make, (List.range s.cards.reverse.length).map fun v => ⟨(gs s.cards.reverse v).lo + (p.turn.gives d.forme.back v).lo, (gs s.cards.reverse v).hi + (p.turn.gives d.forme.back v).hi⟩⟩ : Shf)) = _
      split
      · rfl
      · show some _ = some _
        congr 1
        show Shf.mk _ _ _ = Shf.mk _ _ (List.reverse _)
        congr 1
        apply List.ext_getElem?
        intro i
        by_cases hi : i < s.cards.length
        · rw [List.getElem?_map, List.getElem?_range (by simpa using hi), List.getElem?_reverse (by simpa using hi), List.getElem?_map, List.length_map, List.length_range, List.getElem?_range (by omega)]
          simp only [Option.map_some]
          rw [gs_rev hi, gives_back (fme_parts hF).1 (by omega), hl]
        · rw [List.getElem?_eq_none (by simp; omega), List.getElem?_eq_none (by simp; omega)]
    · have h2 : d.kind = 2 := by
        unfold dealOk at hd
        rw [if_neg h0, if_neg h1] at hd
        split at hd
        · assumption
        · cases hd
      have hv : 0 ≤ d.view ∧ d.view ≤ (p.wanted.length : Int) - 1 := by
        unfold dealOk at hd
        rw [if_neg h0, if_neg h1, if_pos h2] at hd
        simp only [Bool.and_eq_true, inR, decide_eq_true_eq] at hd
        exact hd.1.1
      have ev : (d.back p.wanted.length).view.toNat = s.cards.length - 1 - d.view.toNat := by
        have e3 : (d.back p.wanted.length).view = (p.wanted.length : Int) - 1 - d.view := by unfold Dl.back; rw [if_pos h2]
        rw [e3]; omega
      rw [if_neg h0, if_neg h1, if_neg h0, if_neg h1, ev]
      have eg : gs s.back.cards (s.cards.length - 1 - d.view.toNat) = gs s.cards d.view.toNat := by
        show gs s.cards.reverse _ = _
        rw [gs_rev (by omega)]
        congr 1
        omega
      have em : (d.back p.wanted.length).many = d.many := rfl
      have eq_ : (d.back p.wanted.length).pence = d.pence := rfl
      rw [eg, em, eq_]
      split
      · rfl
      · show some (Shf.mk s.paper (s.money + d.pence) (s.cards.reverse.set _ _)) = some (Shf.mk _ _ (List.reverse _))
        rw [set_rev (by omega)]
theorem runF_turn {p : Prs} : ∀ (r : List Dl) (s : Shf) (k : Nat), (∀ d ∈ r, dealOk p d = true) → s.cards.length = p.wanted.length →
    p.turn.runF s.back (r.map (Dl.back p.wanted.length)) k = ((p.runF s r k).1.back, (p.runF s r k).2.1, (p.runF s r k).2.2)
  | [], s, k, _, _ => rfl
  | d :: r, s, k, hd, hl => by
    have h := deal_turn (hd d (by simp)) hl
    rw [List.map_cons]
    cases ht : p.deal s d with
    | none =>
      rw [ht] at h
      rw [runF_none h, runF_none ht]
    | some t =>
      rw [ht] at h
      rw [runF_some h, runF_some ht]
      exact runF_turn r t (k + 1) (fun d hd' => hd d (by simp [hd'])) (by rw [deal_len ht, hl])
theorem lowF_turn {p : Prs} : ∀ (r : List Dl) (s : Shf) (a b : Int), (∀ d ∈ r, dealOk p d = true) → s.cards.length = p.wanted.length →
    p.turn.lowF s.back (r.map (Dl.back p.wanted.length)) a b = p.lowF s r a b
  | [], s, a, b, _, _ => rfl
  | d :: r, s, a, b, hd, hl => by
    have h := deal_turn (hd d (by simp)) hl
    rw [List.map_cons]
    cases ht : p.deal s d with
    | none =>
      rw [ht] at h
      rw [lowF_none h, lowF_none ht]
    | some t =>
      rw [ht] at h
      rw [lowF_some h, lowF_some ht]
      exact lowF_turn r t _ _ (fun d hd' => hd d (by simp [hd'])) (by rw [deal_len ht, hl])
theorem first_turn (p : Prs) : p.turn.first = p.first.back := by
  show Shf.mk p.paper p.money (List.replicate p.wanted.reverse.length ⟨0, 0⟩) = Shf.mk p.paper p.money (List.replicate p.wanted.length ⟨0, 0⟩).reverse
  rw [List.length_reverse, List.reverse_replicate]
theorem play_turn {p : Prs} (hV : p.valid = true) : playE p.turn = playE p := by
  have h := runF_turn (p := p) p.deals p.first 0 (deals_ok hV) (by simp [Prs.first])
  unfold playE
  rw [open_ok (turn_valid hV), open_ok hV]
  have e : p.turn.runF p.turn.first p.turn.deals 0 = ((p.runF p.first p.deals 0).1.back, (p.runF p.first p.deals 0).2.1, (p.runF p.first p.deals 0).2.2) := by
    rw [first_turn]; exact h
  simp only [e]
theorem starts_turn {p : Prs} (hV : p.valid = true) : startsE p.turn = startsE p := by
  have e : p.turn.lows 1125899906842624 = p.lows 1125899906842624 := by
    unfold Prs.lows
    have h := lowF_turn (p := p) p.deals ⟨1125899906842624, 1125899906842624, List.replicate p.wanted.length ⟨0, 0⟩⟩ 1125899906842624 1125899906842624 (deals_ok hV) (by simp)
    have e2 : (Shf.mk 1125899906842624 1125899906842624 (List.replicate p.turn.wanted.length (⟨0, 0⟩ : Spn))) = Shf.back ⟨1125899906842624, 1125899906842624, List.replicate p.wanted.length ⟨0, 0⟩⟩ := by
      show _ = Shf.mk 1125899906842624 1125899906842624 (List.replicate p.wanted.length (⟨0, 0⟩ : Spn)).reverse
      rw [List.reverse_replicate]
      have : p.turn.wanted.length = p.wanted.length := List.length_reverse
      rw [this]
    rw [e2]
    exact h
  unfold startsE
  rw [open_ok (turn_valid hV), open_ok hV, e]
theorem gives_turn {p : Prs} (hV : p.valid = true) (f : Fme) : ∃ s h, givesE p f = (s, h) ∧ givesE p.turn f.back = (s.reverse, h) ∧ s.length ≤ 4 := by
  have hw := wanted_of hV
  unfold givesE
  rw [open_ok hV, open_ok (turn_valid hV), fme_back]
  cases hf : fmeOk p f with
  | false => exact ⟨[], 2, by simp, by simp, by simp⟩
  | true =>
    refine ⟨(List.range p.wanted.length).map fun v => p.gives f v, 0, by simp, ?_, by simp; omega⟩
    simp only [↓reduceIte]
    congr 1
    have e : p.turn.wanted.length = p.wanted.length := List.length_reverse
    rw [e]
    apply List.ext_getElem?
    intro i
    by_cases hi : i < p.wanted.length
    · rw [List.getElem?_map, List.getElem?_range hi, List.getElem?_reverse (by simpa using hi), List.getElem?_map, List.length_map, List.length_range, List.getElem?_range (by omega)]
      simp only [Option.map_some]
      rw [gives_back (fme_parts hf).1 hi]
    · rw [List.getElem?_eq_none (by simp; omega), List.getElem?_eq_none (by simp; omega)]
end Go.Proofs.Ytjkhclijmcmdjaa
namespace Go.Proofs.Ytjkhclijmcmdjaa
open Go.RowKit
set_option linter.unusedVariables false
set_option linter.unusedSimpArgs false
theorem cf38 (args : Array Value) (w : World) : (callFunc 38 args).run Try.prog w = .ok (.enter 38 args) w := by simp [callFunc, Try.func38, Try.f38, go_sem]
theorem rev_take {l : List Int} {k : Nat} (h : k < l.length) : l.reverse.take (k + 1) = l.reverse.take k ++ [gi l (l.length - 1 - k)] := by
  have h2 : k < l.reverse.length := by simpa using h
  rw [List.take_add_one, List.getElem?_reverse h]
  have h3 : l.length - 1 - k < l.length := by omega
  simp [gi, h3]
set_option maxRecDepth 100000 in
set_option maxHeartbeats 4000000 in
theorem back38 {l : List Int} {a : Option Addr} {c : Nat} {w : World} (ha : IsInts w a l) (hl : l.length ≤ 20) :
    Calls Try.prog 38 #[.slice a l.length c] w fun e w' => ∃ r : Option Addr × Nat, e = .returned (.slice r.1 l.length r.2) ∧ IsInts w' r.1 l.reverse ∧ (∀ b o, r.1 = some ⟨b, o, none⟩ → w.heap.size ≤ b ∧ b < w'.heap.size) ∧ Below w.heap.size w w' := by
  have HX := Lib.hid ha
  clear ha
  go_enter Try.func38, Try.ntmps38
  refine wp_seq_hid ?_
  intro K0 HK0
  go_wp2_with fail
  refine HK0.out _ _ ?_
  clear HK0 K0
  refine wp_seq_hid ?_
  intro K1 HK1
  go_wp2_with fail
  go_loopw [2, 6] (fun o i wr => ∃ (k : Nat) (r : Option Addr × Nat), k ≤ l.length ∧ i = .int .i64 k ∧ o = .slice r.1 k r.2 ∧ Hid (NumI w (l.reverse.take k) r wr)) (fun _ i _ => l.length - (intOf i).toNat)
  case atStart => exact ⟨0, (none, 0), by omega, rfl, rfl, ⟨Below.refl _ _, World.ownsRow_nil w _ _ _⟩⟩
  case round =>
    obtain ⟨k, r, hk, rfl, rfl, HW⟩ := hrel
    by_cases hlt : k < l.length
    · obtain ⟨bb, off, hab, hx⟩ := (HX.out.mono HW.out.le) (l.length - 1 - k) (by omega)
      rw [hab]
      have HAB := Lib.hid hab
      have HT := Lib.hid (rev_take hlt)
      have hlen : (l.reverse.take k).length = k := by rw [List.length_take, List.length_reverse]; omega
      have HLEN := Lib.hid hlen
      clear hab hlen
      obtain ⟨j, hj⟩ : ∃ j : Nat, j = l.length - 1 - k := ⟨_, rfl⟩
      have hjl : j < l.length := by omega
      have w1 : IntKind.i64.wrap ((l.length : Int) - 1) = (l.length : Int) - 1 := IntWalk.i64_in _ (by omega)
      have w2 : IntKind.i64.wrap ((l.length : Int) - 1 - (k : Int)) = (j : Int) := by rw [IntWalk.i64_in _ (by omega)]; omega
      rw [← hj] at hx HT
      clear hj
      revert hx HT
      generalize gi l j = x
      intro HT hx
      have hb5 : Below wr.heap.size wr (wr.alloc (.cells #[.int .i64 x] 3)) := (Below.refl _ wr).alloc (Nat.le_refl _) _
      have hi5 : IsInts (wr.alloc (.cells #[.int .i64 x] 3)) (some ⟨wr.heap.size, 0, none⟩) [x] := fun i hi => by
        have : i = 0 := by simpa using hi
        subst this
        exact ⟨wr.heap.size, 0, rfl, by rw [cell_of_heap (World.alloc_heap_new wr (.cells #[.int .i64 x] 3))]; rfl⟩
      have hw5 := HW.out.mono hb5
      obtain ⟨r1, w', hr, hb, ho, hk2⟩ := app_ints (m := [x]) (cv := 1) HLEN.out.symm (by rw [HLEN.out]; simp; omega) hw5.le (by have := hw5.own; rw [HLEN.out] at this; exact this) hi5
      have HR := Lib.hid hr
      have HN : Hid (NumI w (l.reverse.take (k + 1)) r1 w') := by
        rw [Hid, HT.out]
        refine ⟨hb, ?_⟩
        have e : (l.reverse.take k ++ [x]).length = k + 1 := by rw [List.length_append, HLEN.out]; rfl
        rw [e]
        exact ho
      clear hb5 hi5 hw5 hr hb ho hk2 HT
      go_wp2_with (at_builtin; refine wpList_append_run rfl (.tmp 9) (.tmp 18) 24 rfl (.slice r.1 k r.2) (.slice (some ⟨wr.heap.size, 0, none⟩) 1 1) (.slice r1.1 (k + 1) r1.2) w' rfl rfl HR.out ?_)
      go_roundw
      case rel => exact ⟨k + 1, r1, by omega, by go_num, rfl, HN.out⟩
      case measure => simp [intOf]; omega
    · obtain rfl : k = l.length := by omega
      have hke : l.reverse.take l.length = l.reverse := List.take_of_length_le (by simp)
      rw [hke] at HW
      have HI := Lib.hid (own_ints HW.out.own)
      have HLE := Lib.hid HW.out.le
      have HF : Hid (∀ b o, r.1 = some ⟨b, o, none⟩ → w.heap.size ≤ b ∧ b < wr.heap.size) := fun b o e => HW.out.own.lt b (by rw [e]; rfl)
      clear hke HW
      go_wp2_with fail
      refine HK1.out _ _ ?_
      go_wp2_with fail
      go_ret
      exact ⟨r, rfl, HI.out, HF.out, HLE.out⟩
def dlC : List Dl → List Row → List Value
  | [], _ => []
  | _, [] => []
  | d :: l, r :: rs => .int .i64 d.kind :: .slice r.1 d.forme.slots.length r.2 :: .int .i64 d.forme.times :: .int .i64 d.view :: .int .i64 d.many :: .int .i64 d.pence :: dlC l rs
theorem dlC_at : ∀ {l : List Dl} {rs : List Row} {i : Nat}, rs.length = l.length → i < l.length → ∃ r, rs[i]? = some r ∧ (dlC l rs)[i * 6]? = some (.int .i64 (gd l i).kind) ∧ (dlC l rs)[i * 6 + 1]? = some (.slice r.1 (gd l i).forme.slots.length r.2) ∧ (dlC l rs)[i * 6 + 2]? = some (.int .i64 (gd l i).forme.times) ∧ (dlC l rs)[i * 6 + 3]? = some (.int .i64 (gd l i).view) ∧ (dlC l rs)[i * 6 + 4]? = some (.int .i64 (gd l i).many) ∧ (dlC l rs)[i * 6 + 5]? = some (.int .i64 (gd l i).pence)
  | [], _, _, _, h => by simp at h
  | _ :: _, [], _, h, _ => by simp at h
  | d :: l, r :: rs, 0, _, _ => ⟨r, rfl, rfl, rfl, rfl, rfl, rfl, rfl⟩
  | d :: l, r :: rs, i + 1, h, hi => by
    obtain ⟨q, h1, h2, h3, h4, h5, h6, h7⟩ := dlC_at (l := l) (rs := rs) (i := i) (by simpa using h) (by simpa using hi)
    have e : ∀ j, (i + 1) * 6 + j = (i * 6 + j) + 6 := fun j => by omega
    refine ⟨q, by simpa using h1, ?_, ?_, ?_, ?_, ?_, ?_⟩
    · rw [show (i + 1) * 6 = i * 6 + 6 by omega]; exact h2
    · rw [e]; exact h3
    · rw [e]; exact h4
    · rw [e]; exact h5
    · rw [e]; exact h6
    · rw [e]; exact h7
theorem dlC_snoc : ∀ (l : List Dl) (rs : List Row) (d : Dl) (r : Row), rs.length = l.length → dlC (l ++ [d]) (rs ++ [r]) = dlC l rs ++ [.int .i64 d.kind, .slice r.1 d.forme.slots.length r.2, .int .i64 d.forme.times, .int .i64 d.view, .int .i64 d.many, .int .i64 d.pence]
  | [], [], d, r, _ => rfl
  | [], _ :: _, _, _, h => by simp at h
  | _ :: _, [], _, _, h => by simp at h
  | x :: l, q :: rs, d, r, h => by
    simp only [List.cons_append, dlC]
    rw [dlC_snoc l rs d r (by simpa using h)]
theorem infoDl : (Try.prog.info? 62).map (fun i => (i.zero, i.size, i.bytes)) = some (some (.agg #[.int .i64 0, .slice none 0 0, .int .i64 0, .int .i64 0, .int .i64 0, .int .i64 0]), 6, 64) := by kernel_rfl
/-- Deals in a row of one's own, their slots in rows of their own; all in blocks from W on, below N. -/
structure DlsI (W : World) (N : Nat) (l : List Dl) (r : Row) (v : World) : Prop where
  low : W.heap.size ≤ N
  size : N ≤ v.heap.size
  rows : ∃ rs : List Row, rs.length = l.length ∧ v.ownsRow W.heap.size 62 6 (.slice r.1 l.length r.2) l.length (dlC l rs) ∧ (∀ k, (Value.slice r.1 l.length r.2).ownBlock = some k → k < N) ∧
    ∀ i q, rs[i]? = some q → IsInts v q.1 (gd l i).forme.slots ∧ ∀ b o, q.1 = some ⟨b, o, none⟩ → W.heap.size ≤ b ∧ b < N ∧ (Value.slice r.1 l.length r.2).ownBlock ≠ some b
theorem DlsI.start (W : World) : DlsI W W.heap.size [] (none, 0) W := ⟨Nat.le_refl _, Nat.le_refl _, [], rfl, World.ownsRow_nil W _ _ _, (fun k h => by cases h), fun i q h => by simp at h⟩
theorem DlsI.mono {W : World} {N : Nat} {l : List Dl} {r : Row} {v v' : World} (h : DlsI W N l r v) (hb : Below v.heap.size v v') : DlsI W N l r v' := by
  obtain ⟨h0, h1, rs, h2, h3, h4, h5⟩ := h
  exact ⟨h0, Nat.le_trans h1 hb.size, rs, h2, own_below h3 hb, h4, fun i q hq => ⟨(h5 i q hq).1.mono hb, (h5 i q hq).2⟩⟩
theorem ints_setC {w : World} {a : Option Addr} {l : List Int} {b k : Nat} {x : Value} (h : IsInts w a l) (hne : ∀ b' o, a = some ⟨b', o, none⟩ → b' ≠ b) : IsInts (w.setCell ⟨b, k, none⟩ x) a l := fun i hi => by
  obtain ⟨b', o, e, hc⟩ := h i hi
  exact ⟨b', o, e, by rw [cell_eq (Below.heap_setCell _ _ _ _ (hne b' o e))]; exact hc⟩
theorem DlsI.set {W : World} {N : Nat} {l : List Dl} {r : Row} {v : World} {b k : Nat} {x : Value} (h : DlsI W N l r v) (hb : b < W.heap.size ∨ N ≤ b) : DlsI W N l r (v.setCell ⟨b, k, none⟩ x) := by
  obtain ⟨h0, h1, rs, h2, h3, h4, h5⟩ := h
  refine ⟨h0, by rw [World.size_setCell]; exact h1, rs, h2, ownsRow_setCell_other (a := ⟨b, k, none⟩) h3 (fun e => ?_) x, h4, fun i q hq => ⟨ints_setC (h5 i q hq).1 fun b' o e => ?_, (h5 i q hq).2⟩⟩
  · have e1 : b < N := h4 b e
    have e2 : W.heap.size ≤ b := (h3.lt b e).1
    omega
  · have := (h5 i q hq).2 b' o e
    omega
theorem DlsI.dls {W : World} {N : Nat} {l : List Dl} {r : Row} {v : World} (h : DlsI W N l r v) : IsDls v r.1 l := fun i hi => by
  obtain ⟨h0, h1, rs, h2, h3, h4, h5⟩ := h
  obtain ⟨q, e1, e2, e3, e4, e5, e6, e7⟩ := dlC_at h2 hi
  obtain ⟨g, cap, e, _, _, _, _, hc⟩ := own_cell h3 (by omega)
  have e' : r.1 = some ⟨g, 0, none⟩ := (Value.slice.inj e).1
  refine ⟨g, 0, e', q.1, q.2, ?_, ?_, ?_, ?_, ?_, ?_, (h5 i q e1).1⟩ <;> rw [Nat.zero_add]
  · exact hc _ _ e2
  · exact hc _ _ e3
  · exact hc _ _ e4
  · exact hc _ _ e5
  · exact hc _ _ e6
  · exact hc _ _ e7
/-- One deal more. -/
theorem DlsI.more {W v : World} {N : Nat} {l : List Dl} {r : Row} {d : Dl} {a : Option Addr} {c ms : Nat} (h : DlsI W N l r v) (hl : l.length ≤ 1000) (hm : v.heap[ms]? = some (.cells (d.arr a c) 62 (0, 0))) (hs : IsInts v a d.forme.slots) (hf : ∀ b o, a = some ⟨b, o, none⟩ → N ≤ b ∧ b < v.heap.size) :
    ∃ (r' : Row) (w' : World), (Builtin.append_ #[25, 25] 25 #[.slice r.1 l.length r.2, .slice (some ⟨ms, 0, none⟩) 1 1]).run Try.prog v = .ok (.slice r'.1 (l.length + 1) r'.2) w' ∧ DlsI W w'.heap.size (l ++ [d]) r' w' ∧ (∀ k, k < v.heap.size → k < W.heap.size ∨ N ≤ k → w'.heap[k]? = v.heap[k]?) ∧ v.heap.size ≤ w'.heap.size ∧ (∀ B w, Below B w v → B ≤ W.heap.size → Below B w w') := by
  obtain ⟨h0, h1, rs, h2, h3, h4, h5⟩ := h
  obtain ⟨i0, hi0, hz0, hz1, hz2⟩ := info_parts infoDl
  obtain ⟨v', w', hr, hn, hg, hor⟩ := append_rows_at (P := Try.prog) (w := v) W.heap.size 25 25 62 i0 _ 6 64 Try.underlying25 hi0 hz0 hz1 hz2 rfl (by decide) _ l.length _ h3 (some ⟨ms, 0, none⟩) 1 1 (d.arr a c).toList rfl
    (fun _ => ⟨_, rfl, fun j u hj => by
      have e : ((⟨ms, 0, none⟩ : Addr).add j) = ⟨ms, j, none⟩ := by unfold Addr.add; split <;> simp_all
      rw [e, cell_of_heap hm, ← hj]
      simp⟩) (by intro u hu; simp at hu; rcases hu with rfl | rfl | rfl | rfl | rfl | rfl <;> rfl) (by simp [maxLen]; omega) (by omega) (Nat.le_trans h0 h1)
  obtain ⟨a', c', rfl, _⟩ := own_slice hn
  have e1 : (l ++ [d]).length = l.length + 1 := by simp
  have keep : ∀ k, k < v.heap.size → (Value.slice r.1 l.length r.2).ownBlock ≠ some k → w'.heap[k]? = v.heap[k]? := fun k hk hne => hg.block k hk fun e => hne (e ▸ rfl)
  have kept : ∀ (q : Option Addr) (z : List Int), IsInts v q z → (∀ b o, q = some ⟨b, o, none⟩ → b < v.heap.size ∧ (Value.slice r.1 l.length r.2).ownBlock ≠ some b) → IsInts w' q z := fun q z hz hq i hi => by
    obtain ⟨b, o, e, hc⟩ := hz i hi
    exact ⟨b, o, e, by rw [cell_eq (keep b (hq b o e).1 (hq b o e).2)]; exact hc⟩
  have hown : ∀ b, (Value.slice r.1 l.length r.2).ownBlock ≠ some b → b < v.heap.size → (Value.slice a' (l.length + 1) c').ownBlock ≠ some b := fun b hb hlt e => by
    rcases hor with h | h
    · rw [h] at e; exact hb e
    · rw [h] at e; cases e; omega
  have ha2 : ∀ b o, a = some ⟨b, o, none⟩ → (Value.slice r.1 l.length r.2).ownBlock ≠ some b := fun b o e hb => by
    have := h4 b hb
    have := (hf b o e).1
    omega
  refine ⟨(a', c'), w', hr, ⟨Nat.le_trans h0 (Nat.le_trans h1 hg.size), Nat.le_refl _, rs ++ [(a, c)], by simp [h2], ?_, fun k hk => ?_, fun i q hq => ?_⟩, fun k hk hlo => keep k hk fun e => ?_, hg.size, fun B w hb hB => ?_⟩
  · rw [dlC_snoc l rs d (a, c) h2, e1]
    exact hn
  · rw [e1] at hk
    exact (hn.lt k hk).2
  · rw [e1]
    rcases Nat.lt_trichotomy i rs.length with hj | hj | hj
    · rw [List.getElem?_append_left hj] at hq
      have e : gd (l ++ [d]) i = gd l i := by unfold gd; rw [List.getD_eq_getElem?_getD, List.getD_eq_getElem?_getD, List.getElem?_append_left (by omega)]
      rw [e]
      have h6 := h5 i q hq
      exact ⟨kept _ _ h6.1 fun b o e => ⟨Nat.lt_of_lt_of_le (h6.2 b o e).2.1 h1, (h6.2 b o e).2.2⟩, fun b o e => ⟨(h6.2 b o e).1, Nat.lt_of_lt_of_le (h6.2 b o e).2.1 (Nat.le_trans h1 hg.size), hown b (h6.2 b o e).2.2 (Nat.lt_of_lt_of_le (h6.2 b o e).2.1 h1)⟩⟩
    · subst hj
      simp at hq
      subst hq
      have e : gd (l ++ [d]) rs.length = d := by unfold gd; rw [List.getD_eq_getElem?_getD, h2]; simp
      rw [e]
      exact ⟨kept _ _ hs fun b o e => ⟨(hf b o e).2, ha2 b o e⟩, fun b o e => ⟨Nat.le_trans h0 (hf b o e).1, Nat.lt_of_lt_of_le (hf b o e).2 hg.size, hown b (ha2 b o e) (hf b o e).2⟩⟩
    · rw [List.getElem?_eq_none (by simp; omega)] at hq
      cases hq
  · have h6 := h4 k e
    have h7 := (h3.lt k e).1
    omega
  · exact hb.grown hg (Nat.le_trans hB (Nat.le_trans h0 h1)) fun k hk => Nat.le_trans hB (h3.lt k hk).1
structure tur16F (b3 : Nat) (fa : Option Addr) (nf : Nat) (fc : Nat) (ft : Int) (S0 : Bool → Nat → World → Prop) (S1 : Bool → Nat → Option Addr × Nat → World → Prop) (S2 : Bool → Nat → Option Addr × Nat → World → Prop) (d : Nat → Bool) (x92 x93 x94 x95 x96 x97 x98 x11 : Value) (ms : Nat) (r : Option Addr × Nat) (w : World) : Prop where
  q2 : d 2 = true → d 1 = true
  q3 : d 3 = true → d 0 = true ∧ d 2 = true
  q5 : d 5 = true → d 4 = true
  q6 : d 6 = true → d 3 = true ∧ d 5 = true
  q8 : d 8 = true → d 0 = true ∧ d 1 = true ∧ d 2 = true ∧ d 3 = true ∧ d 4 = true ∧ d 5 = true ∧ d 6 = true ∧ d 7 = true
  f0 : d 0 = true → x92 = .func (.func 38) #[] #[]
  f1 : d 1 = true → x93 = .pointer (some ⟨b3, 0, none⟩)
  f2 : d 2 = true → x94 = .slice fa nf fc
  f3 : d 3 = true → x95 = .slice r.1 nf r.2
  f4 : d 4 = true → x96 = .pointer (some ⟨b3, 1, none⟩)
  f5 : d 5 = true → x97 = .int .i64 ft
  f6 : d 6 = true → x98 = .agg #[.slice r.1 nf r.2, .int .i64 ft]
  f7 : d 7 = true → x11 = .pointer (some ⟨ms, 0, none⟩)
  st0 : d 3 = false → S0 (d 7) ms w
  st1 : d 3 = true → d 8 = false → S1 (d 7) ms r w
  st2 : d 8 = true → S2 (d 7) ms r w
  mz : d 7 = false → ms = 0
noncomputable def tur16C : Code := (Try.f12.body.bind (regionAt 16)).getD .skip
set_option maxRecDepth 100000 in
set_option maxHeartbeats 4000000 in
theorem tur16 {b3 : Nat} {fa : Option Addr} {nf : Nat} {fc : Nat} {ft : Int} {S0 : Bool → Nat → World → Prop} {S1 : Bool → Nat → Option Addr × Nat → World → Prop} {S2 : Bool → Nat → Option Addr × Nat → World → Prop} {Q : Exit → Act → World → Prop} {W1 : World} (hcf : ∀ (args : Array Value) (w : World), (callFunc 38 args).run Try.prog w = .ok (.enter 38 args) w) (h0 : S0 false 0 W1.drew)
    (kl2 : Hid (∀ (fs : Bool) (ms : Nat) (w : World), (S0 fs ms w) → w.cell? ⟨b3, 0, none⟩ = some (.slice fa nf fc)))
    (kc3 : Hid (∀ (fs : Bool) (ms : Nat) (w : World), S0 fs ms w → Calls Try.prog 38 #[.slice fa nf fc] w fun e w' => ∃ r : Option Addr × Nat, e = .returned (.slice r.1 nf r.2) ∧ S1 fs ms r w'))
    (kl5 : Hid (∀ (fs : Bool) (ms : Nat) (r : Option Addr × Nat) (w : World), (S0 fs ms w ∨ S1 fs ms r w) → w.cell? ⟨b3, 1, none⟩ = some (.int .i64 ft)))
    (ks0 : Hid (∀ (w : World), S0 false 0 w → S0 true w.heap.size (w.alloc (.cells #[.slice none 0 0, .int .i64 0] 29))))
    (ks1 : Hid (∀ (r : Option Addr × Nat) (w : World), S1 false 0 r w → S1 true w.heap.size r (w.alloc (.cells #[.slice none 0 0, .int .i64 0] 29))))
    (kc8 : Hid (∀ (ms : Nat) (r : Option Addr × Nat) (w : World), S1 true ms r w → (∃ u, w.cell? ⟨ms, 0, none⟩ = some u) ∧ w.frozen? ⟨ms, 0, none⟩ = false ∧ (∃ u, w.cell? ⟨ms, 1, none⟩ = some u) ∧ w.frozen? ⟨ms, 1, none⟩ = false ∧ S2 true ms r ((w.setCell ⟨ms, 0, none⟩ (.slice r.1 nf r.2)).setCell ⟨ms, 1, none⟩ (.int .i64 ft))))
    {s0 s1 s2 s4 s5 s7 s8 s9 s10 s11 s12 s13 s14 s15 s16 s17 s18 s19 s20 s21 s22 s23 s24 s25 s26 s27 s28 s29 s30 s31 s32 s33 s34 s35 s36 s37 s38 s39 s40 s41 s42 s43 s44 s45 s46 s47 s48 s49 s50 s51 s52 s53 s54 s55 s56 s57 s58 s59 s60 s61 s62 s63 s64 s65 s66 s67 s68 s69 s70 s71 s72 s73 s74 s75 s76 s77 s78 s79 s80 s81 s82 s83 s84 s85 s86 s87 s88 s89 s90 s91 s92 s93 s94 s95 s96 s97 s98 s99 s100 s101 s102 s103 s104 s105 s106 s107 s108 s109 s110 s111 s112 s113 s114 s115 s116 s117 s118 s119 s120 s121 s122 s123 s124 s125 s126 s127 s128 s129 s130 s131 s132 s133 s134 s135 s136 s137 s138 s139 s140 s141 s142 s143 s144 s145 s146 s147 s148 s149 s150 s151 s152 s153 s154 s155 s156 s157 s158 s159 s160 s161 s162 s163 s164 s165 s166 s167 s168 s169 s170 s171 s172 s173 s174 s175 s176 s177 s178 s179 s180 s181 s182 s183 s184 s185 s186 s187 s188 s189 s190 s191 s192 s193 s194 s195 s196 s197 s198 s199 s200 s201 s202 s203 s204 s205 s206 s207 s208 s209 s210 s211 s212 s213 s214 s215 s216 s217 s218 s219 s220 s221 s222 s223 s224 s225 s226 s227 s228 s229 s230 s231 s232 : Value} {dd : List Deferred}
    (hQ : ∀ (ms : Nat) (r : Option Addr × Nat) (w' : World), S2 true ms r w' → Q .normal { tmps := List.toArray (s0 :: s1 :: s2 :: .pointer (some ⟨b3, 0, none⟩) :: s4 :: s5 :: .func (.func 38) #[] #[] :: s7 :: s8 :: s9 :: s10 :: .pointer (some ⟨ms, 0, none⟩) :: s12 :: s13 :: s14 :: s15 :: s16 :: s17 :: s18 :: s19 :: s20 :: s21 :: s22 :: s23 :: s24 :: s25 :: s26 :: s27 :: s28 :: s29 :: s30 :: s31 :: s32 :: s33 :: s34 :: s35 :: s36 :: s37 :: s38 :: s39 :: s40 :: s41 :: s42 :: s43 :: s44 :: s45 :: s46 :: s47 :: s48 :: s49 :: s50 :: s51 :: s52 :: s53 :: s54 :: s55 :: s56 :: s57 :: s58 :: s59 :: s60 :: s61 :: s62 :: s63 :: s64 :: s65 :: s66 :: s67 :: s68 :: s69 :: s70 :: s71 :: s72 :: s73 :: s74 :: s75 :: s76 :: s77 :: s78 :: s79 :: s80 :: s81 :: s82 :: s83 :: s84 :: s85 :: s86 :: s87 :: s88 :: s89 :: s90 :: s91 :: .func (.func 38) #[] #[] :: .pointer (some ⟨b3, 0, none⟩) :: .slice fa nf fc :: .slice r.1 nf r.2 :: .pointer (some ⟨b3, 1, none⟩) :: .int .i64 ft :: .agg #[.slice r.1 nf r.2, .int .i64 ft] :: s99 :: s100 :: s101 :: s102 :: s103 :: s104 :: s105 :: s106 :: s107 :: s108 :: s109 :: s110 :: s111 :: s112 :: s113 :: s114 :: s115 :: s116 :: s117 :: s118 :: s119 :: s120 :: s121 :: s122 :: s123 :: s124 :: s125 :: s126 :: s127 :: s128 :: s129 :: s130 :: s131 :: s132 :: s133 :: s134 :: s135 :: s136 :: s137 :: s138 :: s139 :: s140 :: s141 :: s142 :: s143 :: s144 :: s145 :: s146 :: s147 :: s148 :: s149 :: s150 :: s151 :: s152 :: s153 :: s154 :: s155 :: s156 :: s157 :: s158 :: s159 :: s160 :: s161 :: s162 :: s163 :: s164 :: s165 :: s166 :: s167 :: s168 :: s169 :: s170 :: s171 :: s172 :: s173 :: s174 :: s175 :: s176 :: s177 :: s178 :: s179 :: s180 :: s181 :: s182 :: s183 :: s184 :: s185 :: s186 :: s187 :: s188 :: s189 :: s190 :: s191 :: s192 :: s193 :: s194 :: s195 :: s196 :: s197 :: s198 :: s199 :: s200 :: s201 :: s202 :: s203 :: s204 :: s205 :: s206 :: s207 :: s208 :: s209 :: s210 :: s211 :: s212 :: s213 :: s214 :: s215 :: s216 :: s217 :: s218 :: s219 :: s220 :: s221 :: s222 :: s223 :: s224 :: s225 :: s226 :: s227 :: s228 :: s229 :: s230 :: s231 :: s232 :: []), defers := dd } w') :
    Code.wpIn (wideAt none) 0 Try.prog tur16C Q { tmps := List.toArray (s0 :: s1 :: s2 :: .pointer (some ⟨b3, 0, none⟩) :: s4 :: s5 :: .func (.func 38) #[] #[] :: s7 :: s8 :: s9 :: s10 :: s11 :: s12 :: s13 :: s14 :: s15 :: s16 :: s17 :: s18 :: s19 :: s20 :: s21 :: s22 :: s23 :: s24 :: s25 :: s26 :: s27 :: s28 :: s29 :: s30 :: s31 :: s32 :: s33 :: s34 :: s35 :: s36 :: s37 :: s38 :: s39 :: s40 :: s41 :: s42 :: s43 :: s44 :: s45 :: s46 :: s47 :: s48 :: s49 :: s50 :: s51 :: s52 :: s53 :: s54 :: s55 :: s56 :: s57 :: s58 :: s59 :: s60 :: s61 :: s62 :: s63 :: s64 :: s65 :: s66 :: s67 :: s68 :: s69 :: s70 :: s71 :: s72 :: s73 :: s74 :: s75 :: s76 :: s77 :: s78 :: s79 :: s80 :: s81 :: s82 :: s83 :: s84 :: s85 :: s86 :: s87 :: s88 :: s89 :: s90 :: s91 :: s92 :: s93 :: s94 :: s95 :: s96 :: s97 :: s98 :: s99 :: s100 :: s101 :: s102 :: s103 :: s104 :: s105 :: s106 :: s107 :: s108 :: s109 :: s110 :: s111 :: s112 :: s113 :: s114 :: s115 :: s116 :: s117 :: s118 :: s119 :: s120 :: s121 :: s122 :: s123 :: s124 :: s125 :: s126 :: s127 :: s128 :: s129 :: s130 :: s131 :: s132 :: s133 :: s134 :: s135 :: s136 :: s137 :: s138 :: s139 :: s140 :: s141 :: s142 :: s143 :: s144 :: s145 :: s146 :: s147 :: s148 :: s149 :: s150 :: s151 :: s152 :: s153 :: s154 :: s155 :: s156 :: s157 :: s158 :: s159 :: s160 :: s161 :: s162 :: s163 :: s164 :: s165 :: s166 :: s167 :: s168 :: s169 :: s170 :: s171 :: s172 :: s173 :: s174 :: s175 :: s176 :: s177 :: s178 :: s179 :: s180 :: s181 :: s182 :: s183 :: s184 :: s185 :: s186 :: s187 :: s188 :: s189 :: s190 :: s191 :: s192 :: s193 :: s194 :: s195 :: s196 :: s197 :: s198 :: s199 :: s200 :: s201 :: s202 :: s203 :: s204 :: s205 :: s206 :: s207 :: s208 :: s209 :: s210 :: s211 :: s212 :: s213 :: s214 :: s215 :: s216 :: s217 :: s218 :: s219 :: s220 :: s221 :: s222 :: s223 :: s224 :: s225 :: s226 :: s227 :: s228 :: s229 :: s230 :: s231 :: s232 :: []), defers := dd } W1 := by
  have HQ := Lib.hid hQ
  clear hQ
  conv => arg 4; whnf
  refine wpIn_region_invG mixed (by kernel_rfl) (fun d_ a_ w' => ∃ (x92 : Value) (x93 : Value) (x94 : Value) (x95 : Value) (x96 : Value) (x97 : Value) (x98 : Value) (x11 : Value) (ms : Nat) (r : Option Addr × Nat), a_ = { tmps := List.toArray (s0 :: s1 :: s2 :: .pointer (some ⟨b3, 0, none⟩) :: s4 :: s5 :: .func (.func 38) #[] #[] :: s7 :: s8 :: s9 :: s10 :: x11 :: s12 :: s13 :: s14 :: s15 :: s16 :: s17 :: s18 :: s19 :: s20 :: s21 :: s22 :: s23 :: s24 :: s25 :: s26 :: s27 :: s28 :: s29 :: s30 :: s31 :: s32 :: s33 :: s34 :: s35 :: s36 :: s37 :: s38 :: s39 :: s40 :: s41 :: s42 :: s43 :: s44 :: s45 :: s46 :: s47 :: s48 :: s49 :: s50 :: s51 :: s52 :: s53 :: s54 :: s55 :: s56 :: s57 :: s58 :: s59 :: s60 :: s61 :: s62 :: s63 :: s64 :: s65 :: s66 :: s67 :: s68 :: s69 :: s70 :: s71 :: s72 :: s73 :: s74 :: s75 :: s76 :: s77 :: s78 :: s79 :: s80 :: s81 :: s82 :: s83 :: s84 :: s85 :: s86 :: s87 :: s88 :: s89 :: s90 :: s91 :: x92 :: x93 :: x94 :: x95 :: x96 :: x97 :: x98 :: s99 :: s100 :: s101 :: s102 :: s103 :: s104 :: s105 :: s106 :: s107 :: s108 :: s109 :: s110 :: s111 :: s112 :: s113 :: s114 :: s115 :: s116 :: s117 :: s118 :: s119 :: s120 :: s121 :: s122 :: s123 :: s124 :: s125 :: s126 :: s127 :: s128 :: s129 :: s130 :: s131 :: s132 :: s133 :: s134 :: s135 :: s136 :: s137 :: s138 :: s139 :: s140 :: s141 :: s142 :: s143 :: s144 :: s145 :: s146 :: s147 :: s148 :: s149 :: s150 :: s151 :: s152 :: s153 :: s154 :: s155 :: s156 :: s157 :: s158 :: s159 :: s160 :: s161 :: s162 :: s163 :: s164 :: s165 :: s166 :: s167 :: s168 :: s169 :: s170 :: s171 :: s172 :: s173 :: s174 :: s175 :: s176 :: s177 :: s178 :: s179 :: s180 :: s181 :: s182 :: s183 :: s184 :: s185 :: s186 :: s187 :: s188 :: s189 :: s190 :: s191 :: s192 :: s193 :: s194 :: s195 :: s196 :: s197 :: s198 :: s199 :: s200 :: s201 :: s202 :: s203 :: s204 :: s205 :: s206 :: s207 :: s208 :: s209 :: s210 :: s211 :: s212 :: s213 :: s214 :: s215 :: s216 :: s217 :: s218 :: s219 :: s220 :: s221 :: s222 :: s223 :: s224 :: s225 :: s226 :: s227 :: s228 :: s229 :: s230 :: s231 :: s232 :: []), defers := dd } ∧ tur16F b3 fa nf fc ft S0 S1 S2 d_ x92 x93 x94 x95 x96 x97 x98 x11 ms r w') ?_ ?_ ?_
  · refine ⟨s92, s93, s94, s95, s96, s97, s98, s11, 0, default, rfl, ?_⟩
    constructor <;> first | rfl | (intro _; rfl) | (intro h; cases h; done) | (intro _; exact h0) | exact h0
  · refine ⟨?_, ?_, ?_, ?_, ?_, ?_, ?_, ?_, ?_, trivial⟩
    all_goals
      rintro d_ a_ w1 K hd_ hdep ⟨x92, x93, x94, x95, x96, x97, x98, x11, ms, r, rfl, F⟩ HK
      simp [Region.binds] at hdep
    · have HF : Hid (tur16F b3 fa nf fc ft S0 S1 S2 (upd d_ 0) (.func (.func 38) #[] #[]) x93 x94 x95 x96 x97 x98 x11 ms r w1) := ⟨F.q2, fun h => ⟨rfl, (F.q3 h).2⟩, F.q5, F.q6, fun h => ⟨rfl, (F.q8 h).2.1, (F.q8 h).2.2.1, (F.q8 h).2.2.2.1, (F.q8 h).2.2.2.2.1, (F.q8 h).2.2.2.2.2.1, (F.q8 h).2.2.2.2.2.2.1, (F.q8 h).2.2.2.2.2.2.2⟩, fun _ => rfl, F.f1, F.f2, F.f3, F.f4, F.f5, F.f6, F.f7, F.st0, F.st1, F.st2, F.mz⟩
      clear F
      go_simp
      exact HK.out _ _ ⟨_, _, _, _, _, _, _, _, _, _, rfl, HF.out⟩
    · have HF : Hid (tur16F b3 fa nf fc ft S0 S1 S2 (upd d_ 1) x92 (.pointer (some ⟨b3, 0, none⟩)) x94 x95 x96 x97 x98 x11 ms r w1) := ⟨fun h => rfl, F.q3, F.q5, F.q6, fun h => ⟨(F.q8 h).1, rfl, (F.q8 h).2.2.1, (F.q8 h).2.2.2.1, (F.q8 h).2.2.2.2.1, (F.q8 h).2.2.2.2.2.1, (F.q8 h).2.2.2.2.2.2.1, (F.q8 h).2.2.2.2.2.2.2⟩, F.f0, fun _ => rfl, F.f2, F.f3, F.f4, F.f5, F.f6, F.f7, F.st0, F.st1, F.st2, F.mz⟩
      clear F
      go_simp
      exact HK.out _ _ ⟨_, _, _, _, _, _, _, _, _, _, rfl, HF.out⟩
    · have hst : S0 (d_ 7) ms w1 := by
        have n_ : d_ 3 = false := by
          cases e_ : d_ 3 with
          | false => rfl
          | true => have h2 := (F.q3 e_).2; rw [show d_ 2 = false from hd_] at h2; cases h2
        exact (F.st0 n_)
      have kk := kl2.out (d_ 7) ms w1 hst
      clear hst
      obtain rfl := F.f1 (by simp [hdep])
      have HF : Hid (tur16F b3 fa nf fc ft S0 S1 S2 (upd d_ 2) x92 (.pointer (some ⟨b3, 0, none⟩)) (.slice fa nf fc) x95 x96 x97 x98 x11 ms r w1) := ⟨fun _ => (show _ from (by simp [hdep] : d_ 1 = true)), fun h => ⟨(F.q3 h).1, rfl⟩, F.q5, F.q6, fun h => ⟨(F.q8 h).1, (F.q8 h).2.1, rfl, (F.q8 h).2.2.2.1, (F.q8 h).2.2.2.2.1, (F.q8 h).2.2.2.2.2.1, (F.q8 h).2.2.2.2.2.2.1, (F.q8 h).2.2.2.2.2.2.2⟩, F.f0, F.f1, fun _ => rfl, F.f3, F.f4, F.f5, F.f6, F.f7, F.st0, F.st1, F.st2, F.mz⟩
      clear F
      go_simp
      exact HK.out _ _ ⟨_, _, _, _, _, _, _, _, _, _, rfl, HF.out⟩
    · have hS := F.st0  hd_
      obtain rfl := F.f0 (by simp [hdep])
      obtain rfl := F.f2 (by simp [hdep])
      have hc := kc3.out (d_ 7) ms w1 hS
      have HF := Lib.hid F
      clear F
      go_simp
      refine ⟨trivial, rfl, wideAt_calls (hc.mono ?_)⟩
      rintro e w5 ⟨v_, rfl, hres⟩
      exact HK.out _ _ ⟨_, _, _, _, _, _, _, _, ms, v_, rfl, ⟨HF.out.q2, fun _ => ⟨(show _ from (by simp [hdep] : d_ 0 = true)), (show _ from (by simp [hdep] : d_ 2 = true))⟩, HF.out.q5, fun h => ⟨rfl, (HF.out.q6 h).2⟩, fun h => ⟨(HF.out.q8 h).1, (HF.out.q8 h).2.1, (HF.out.q8 h).2.2.1, rfl, (HF.out.q8 h).2.2.2.2.1, (HF.out.q8 h).2.2.2.2.2.1, (HF.out.q8 h).2.2.2.2.2.2.1, (HF.out.q8 h).2.2.2.2.2.2.2⟩, HF.out.f0, HF.out.f1, HF.out.f2, fun _ => rfl, HF.out.f4, HF.out.f5, fun h => (by have h2 : d_ 3 = true := (HF.out.q6 h).1; rw [show d_ 3 = false from hd_] at h2; cases h2), HF.out.f7, fun h => (by simp [upd] at h), fun _ _ => hres, fun h => (by have h2 : d_ 3 = true := (HF.out.q8 h).2.2.2.1; rw [show d_ 3 = false from hd_] at h2; cases h2), HF.out.mz⟩⟩
    · have HF : Hid (tur16F b3 fa nf fc ft S0 S1 S2 (upd d_ 4) x92 x93 x94 x95 (.pointer (some ⟨b3, 1, none⟩)) x97 x98 x11 ms r w1) := ⟨F.q2, F.q3, fun h => rfl, F.q6, fun h => ⟨(F.q8 h).1, (F.q8 h).2.1, (F.q8 h).2.2.1, (F.q8 h).2.2.2.1, rfl, (F.q8 h).2.2.2.2.2.1, (F.q8 h).2.2.2.2.2.2.1, (F.q8 h).2.2.2.2.2.2.2⟩, F.f0, F.f1, F.f2, F.f3, fun _ => rfl, F.f5, F.f6, F.f7, F.st0, F.st1, F.st2, F.mz⟩
      clear F
      go_simp
      exact HK.out _ _ ⟨_, _, _, _, _, _, _, _, _, _, rfl, HF.out⟩
    · have hst : S0 (d_ 7) ms w1 ∨ S1 (d_ 7) ms r w1 := by
        cases e1 : d_ 3 with
        | false => exact .inl ((F.st0 e1))
        | true =>
          have n_ : d_ 8 = false := by
            cases e_ : d_ 8 with
            | false => rfl
            | true => have h2 := (F.q8 e_).2.2.2.2.2.1; rw [show d_ 5 = false from hd_] at h2; cases h2
          exact .inr ((F.st1 e1 n_))
      have kk := kl5.out (d_ 7) ms r w1 hst
      clear hst
      obtain rfl := F.f4 (by simp [hdep])
      have HF : Hid (tur16F b3 fa nf fc ft S0 S1 S2 (upd d_ 5) x92 x93 x94 x95 (.pointer (some ⟨b3, 1, none⟩)) (.int .i64 ft) x98 x11 ms r w1) := ⟨F.q2, F.q3, fun _ => (show _ from (by simp [hdep] : d_ 4 = true)), fun h => ⟨(F.q6 h).1, rfl⟩, fun h => ⟨(F.q8 h).1, (F.q8 h).2.1, (F.q8 h).2.2.1, (F.q8 h).2.2.2.1, (F.q8 h).2.2.2.2.1, rfl, (F.q8 h).2.2.2.2.2.2.1, (F.q8 h).2.2.2.2.2.2.2⟩, F.f0, F.f1, F.f2, F.f3, F.f4, fun _ => rfl, F.f6, F.f7, F.st0, F.st1, F.st2, F.mz⟩
      clear F
      go_simp
      exact HK.out _ _ ⟨_, _, _, _, _, _, _, _, _, _, rfl, HF.out⟩
    · obtain rfl := F.f3 (by simp [hdep])
      obtain rfl := F.f5 (by simp [hdep])
      have HF : Hid (tur16F b3 fa nf fc ft S0 S1 S2 (upd d_ 6) x92 x93 x94 (.slice r.1 nf r.2) x96 (.int .i64 ft) (.agg #[.slice r.1 nf r.2, .int .i64 ft]) x11 ms r w1) := ⟨F.q2, F.q3, F.q5, fun _ => ⟨(show _ from (by simp [hdep] : d_ 3 = true)), (show _ from (by simp [hdep] : d_ 5 = true))⟩, fun h => ⟨(F.q8 h).1, (F.q8 h).2.1, (F.q8 h).2.2.1, (F.q8 h).2.2.2.1, (F.q8 h).2.2.2.2.1, (F.q8 h).2.2.2.2.2.1, rfl, (F.q8 h).2.2.2.2.2.2.2⟩, F.f0, F.f1, F.f2, F.f3, F.f4, F.f5, fun _ => rfl, F.f7, F.st0, F.st1, F.st2, F.mz⟩
      clear F
      go_simp
      exact HK.out _ _ ⟨_, _, _, _, _, _, _, _, _, _, rfl, HF.out⟩
    · have HF : Hid (tur16F b3 fa nf fc ft S0 S1 S2 (upd d_ 7) x92 x93 x94 x95 x96 x97 x98 (.pointer (some ⟨w1.heap.size, 0, none⟩)) w1.heap.size r (w1.alloc (.cells #[.slice none 0 0, .int .i64 0] 29))) := ⟨F.q2, F.q3, F.q5, F.q6, fun h => ⟨(F.q8 h).1, (F.q8 h).2.1, (F.q8 h).2.2.1, (F.q8 h).2.2.2.1, (F.q8 h).2.2.2.2.1, (F.q8 h).2.2.2.2.2.1, (F.q8 h).2.2.2.2.2.2.1, rfl⟩, F.f0, F.f1, F.f2, F.f3, F.f4, F.f5, F.f6, fun _ => rfl, fun b => ks0.out w1 (by have h := F.st0 b; rw [show d_ 7 = false from hd_, F.mz hd_] at h; exact h), fun a b => ks1.out r w1 (by have h := F.st1 a b; rw [show d_ 7 = false from hd_, F.mz hd_] at h; exact h), fun a => (by have h2 : d_ 7 = true := (F.q8 a).2.2.2.2.2.2.2; rw [show d_ 7 = false from hd_] at h2; cases h2), fun h => (by simp [upd] at h)⟩
      clear F
      go_simp
      exact HK.out _ _ ⟨_, _, _, _, _, _, _, _, _, _, rfl, HF.out⟩
    · have hS := F.st1 (by simp [hdep] : d_ 3 = true) hd_
      rw [show d_ 7 = true from (by simp [hdep] : d_ 7 = true)] at hS
      obtain rfl := F.f6 (by simp [hdep])
      obtain rfl := F.f7 (by simp [hdep])
      obtain ⟨⟨ku0, kcell0⟩, kfr0, ⟨ku1, kcell1⟩, kfr1, hres⟩ := kc8.out ms r w1 hS
      have HF : Hid (tur16F b3 fa nf fc ft S0 S1 S2 (upd d_ 8) x92 x93 x94 x95 x96 x97 (.agg #[.slice r.1 nf r.2, .int .i64 ft]) (.pointer (some ⟨ms, 0, none⟩)) ms r ((w1.setCell ⟨ms, 0, none⟩ (.slice r.1 nf r.2)).setCell ⟨ms, 1, none⟩ (.int .i64 ft))) := ⟨F.q2, F.q3, F.q5, F.q6, fun _ => ⟨(show _ from (by simp [hdep] : d_ 0 = true)), (show _ from (by simp [hdep] : d_ 1 = true)), (show _ from (by simp [hdep] : d_ 2 = true)), (show _ from (by simp [hdep] : d_ 3 = true)), (show _ from (by simp [hdep] : d_ 4 = true)), (show _ from (by simp [hdep] : d_ 5 = true)), (show _ from (by simp [hdep] : d_ 6 = true)), (show _ from (by simp [hdep] : d_ 7 = true))⟩, F.f0, F.f1, F.f2, F.f3, F.f4, F.f5, F.f6, F.f7, fun h => (by have h2 : d_ 3 = false := h; rw [(by simp [hdep] : d_ 3 = true)] at h2; cases h2), fun _ h => (by simp [upd] at h), fun _ => (by rw [show upd d_ 8 7 = true from (by simp [hdep] : d_ 7 = true)]; exact hres), F.mz⟩
      clear F hS hres
      go_simp
      exact HK.out _ _ ⟨_, _, _, _, _, _, _, _, _, _, rfl, HF.out⟩
  · rintro d_ a_ w1 hall ⟨x92, x93, x94, x95, x96, x97, x98, x11, ms, r, rfl, F⟩
    have hall' : ∀ k, k < 9 → d_ k = true := hall
    obtain rfl := F.f0 (hall' 0 (by decide))
    obtain rfl := F.f1 (hall' 1 (by decide))
    obtain rfl := F.f2 (hall' 2 (by decide))
    obtain rfl := F.f3 (hall' 3 (by decide))
    obtain rfl := F.f4 (hall' 4 (by decide))
    obtain rfl := F.f5 (hall' 5 (by decide))
    obtain rfl := F.f6 (hall' 6 (by decide))
    obtain rfl := F.f7 (hall' 7 (by decide))
    have hst := F.st2 (hall' 8 (by decide))
    rw [show d_ 7 = true from hall' 7 (by decide)] at hst
    exact HQ.out ms r w1 hst
end Go.Proofs.Ytjkhclijmcmdjaa
namespace Go.Proofs.Ytjkhclijmcmdjaa
open Go.RowKit
set_option linter.unusedVariables false
set_option linter.unusedSimpArgs false
noncomputable def turRC : Code := (Try.f12.body.bind (fromRegion 17)).getD .skip
set_option maxRecDepth 100000 in
set_option maxHeartbeats 16000000 in
theorem turned_rest {p : Prs} {A B : PrsA} {b2 b3 b7 b11 g cg : Nat} {f : Fme} {fa ra : Option Addr} {fc rc : Nat} {w w0 : World} {dd : List Deferred}
    (HPX : Hid (∀ v, Below w0.heap.size w0 v → (PrsC v b2 p A ∧ IsPrs v p A) ∧ (PrsC v b7 p.turn B ∧ IsPrs v p.turn B) ∧ (v.cell? ⟨b3, 0, none⟩ = some (.slice fa f.slots.length fc) ∧ v.cell? ⟨b3, 1, none⟩ = some (.int .i64 f.times)) ∧ IsInts v fa f.slots ∧ (v.cell? ⟨b11, 0, none⟩ = some (.slice ra f.back.slots.length rc) ∧ v.cell? ⟨b11, 1, none⟩ = some (.int .i64 f.times)) ∧ IsInts v ra f.back.slots ∧ IsInts v (some ⟨g, 0, none⟩) p.wanted ∧ Below w.heap.size w v))
    (HSP : Hid p.Small) (HSQ : Hid p.turn.Small) (HFS : Hid (f.slots.length ≤ 20)) (HV : Hid (p.valid = true)) (hdd : dd = [])
    {s0 s1 s4 s5 s6 s8 s9 s12 s13 s14 s15 s16 s17 s18 s19 s20 s21 s22 s23 s24 s25 s26 s27 s28 s29 s30 s31 s32 s33 s34 s35 s36 s37 s38 s39 s40 s41 s42 s43 s44 s45 s46 s47 s48 s49 s50 s51 s52 s53 s54 s55 s56 s57 s58 s59 s60 s61 s62 s63 s64 s65 s66 s67 s68 s69 s70 s71 s72 s73 s74 s75 s76 s77 s78 s79 s80 s81 s82 s83 s84 s85 s86 s87 s88 s89 s90 s91 s92 s93 s94 s95 s96 s97 s98 s99 s100 s101 s102 s103 s104 s105 s106 s107 s108 s109 s110 s111 s112 s113 s114 s115 s116 s117 s118 s119 s120 s121 s122 s123 s124 s125 s126 s127 s128 s129 s130 s131 s132 s133 s134 s135 s136 s137 s138 s139 s140 s141 s142 s143 s144 s145 s146 s147 s148 s149 s150 s151 s152 s153 s154 s155 s156 s157 s158 s159 s160 s161 s162 s163 s164 s165 s166 s167 s168 s169 s170 s171 s172 s173 s174 s175 s176 s177 s178 s179 s180 s181 s182 s183 s184 s185 s186 s187 s188 s189 s190 s191 s192 s193 s194 s195 s196 s197 s198 s199 s200 s201 s202 s203 s204 s205 s206 s207 s208 s209 s210 s211 s212 s213 s214 s215 s216 s217 s218 s219 s220 s221 s222 s223 s224 s225 s226 s227 s228 s229 s230 s231 s232 : Value} :
    Code.wp Try.prog turRC (bodyPost Try.prog Try.f12 fun e w' => e = .returned (.bool true) ∧ Below w.heap.size w w') { tmps := List.toArray (s0 :: s1 :: .pointer (some ⟨b2, 0, none⟩) :: .pointer (some ⟨b3, 0, none⟩) :: s4 :: s5 :: s6 :: .pointer (some ⟨b7, 0, none⟩) :: s8 :: s9 :: .slice (some ⟨g, 0, none⟩) p.wanted.length cg :: .pointer (some ⟨b11, 0, none⟩) :: s12 :: s13 :: s14 :: s15 :: s16 :: s17 :: s18 :: s19 :: s20 :: s21 :: s22 :: s23 :: s24 :: s25 :: s26 :: s27 :: s28 :: s29 :: s30 :: s31 :: s32 :: s33 :: s34 :: s35 :: s36 :: s37 :: s38 :: s39 :: s40 :: s41 :: s42 :: s43 :: s44 :: s45 :: s46 :: s47 :: s48 :: s49 :: s50 :: s51 :: s52 :: s53 :: s54 :: s55 :: s56 :: s57 :: s58 :: s59 :: s60 :: s61 :: s62 :: s63 :: s64 :: s65 :: s66 :: s67 :: s68 :: s69 :: s70 :: s71 :: s72 :: s73 :: s74 :: s75 :: s76 :: s77 :: s78 :: s79 :: s80 :: s81 :: s82 :: s83 :: s84 :: s85 :: s86 :: s87 :: s88 :: s89 :: s90 :: s91 :: s92 :: s93 :: s94 :: s95 :: s96 :: s97 :: s98 :: s99 :: s100 :: s101 :: s102 :: s103 :: s104 :: s105 :: s106 :: s107 :: s108 :: s109 :: s110 :: s111 :: s112 :: s113 :: s114 :: s115 :: s116 :: s117 :: s118 :: s119 :: s120 :: s121 :: s122 :: s123 :: s124 :: s125 :: s126 :: s127 :: s128 :: s129 :: s130 :: s131 :: s132 :: s133 :: s134 :: s135 :: s136 :: s137 :: s138 :: s139 :: s140 :: s141 :: s142 :: s143 :: s144 :: s145 :: s146 :: s147 :: s148 :: s149 :: s150 :: s151 :: s152 :: s153 :: s154 :: s155 :: s156 :: s157 :: s158 :: s159 :: s160 :: s161 :: s162 :: s163 :: s164 :: s165 :: s166 :: s167 :: s168 :: s169 :: s170 :: s171 :: s172 :: s173 :: s174 :: s175 :: s176 :: s177 :: s178 :: s179 :: s180 :: s181 :: s182 :: s183 :: s184 :: s185 :: s186 :: s187 :: s188 :: s189 :: s190 :: s191 :: s192 :: s193 :: s194 :: s195 :: s196 :: s197 :: s198 :: s199 :: s200 :: s201 :: s202 :: s203 :: s204 :: s205 :: s206 :: s207 :: s208 :: s209 :: s210 :: s211 :: s212 :: s213 :: s214 :: s215 :: s216 :: s217 :: s218 :: s219 :: s220 :: s221 :: s222 :: s223 :: s224 :: s225 :: s226 :: s227 :: s228 :: s229 :: s230 :: s231 :: s232 :: []), defers := dd } w0 := by
  subst hdd
  conv => arg 2; whnf
  have HB := Lib.hid (Below.refl w0.heap.size w0)
  have hw4 := wanted_of HV.out
  obtain ⟨l, a, e, m, hE1, hE2, hlm⟩ := best_turn HV.out
  obtain ⟨s, h, hG1, hG2, hs4⟩ := gives_turn HV.out f
  obtain ⟨c, j, hP1⟩ : ∃ c j, playE p = (c, j) := ⟨_, _, rfl⟩
  have hP2 := play_turn HV.out
  rw [hP1] at hP2
  obtain ⟨q, r, u, hS1⟩ : ∃ q r u, startsE p = ((q, r), u) := ⟨_, _, _, rfl⟩
  have hS2 := starts_turn HV.out
  rw [hS1] at hS2
  have HE := Lib.hid (And.intro hE1 hE2)
  have HGV := Lib.hid (And.intro hG1 hG2)
  have HPL := Lib.hid (And.intro hP1 hP2)
  have HST := Lib.hid (And.intro hS1 hS2)
  have HLM := Lib.hid hlm
  clear hE1 hE2 hG1 hG2 hP1 hP2 hS1 hS2 hlm
  refine wp_seq_hid ?_
  intro K17 HK17
  obtain ⟨k0, k1, k2, k3, k4, k5, k6, k7, k8, k9⟩ := (HPX.out w0 HB.out).1.1
  have G := best23 (HPX.out w0 HB.out).1.2 HSP.out
  rw [HE.out.1] at G
  go_wp2_with fail
  refine G.mono ?_
  rintro ee b17 ⟨a1, c1, rfl, hf, hb⟩
  have HX := Lib.hid (And.intro (HB.out.trans (hb.mono HB.out.size)) hf)
  clear hb HB G k0 k1 k2 k3 k4 k5 k6 k7 k8 k9 hf
  have HB := HX
  clear HX
  go_wp2_with fail
  refine HK17.out _ _ ?_
  clear HK17 K17
  refine wp_seq_hid ?_
  intro K18 HK18
  obtain ⟨k0, k1, k2, k3, k4, k5, k6, k7, k8, k9⟩ := (HPX.out b17 HB.out.1).2.1.1
  have G := best23 (HPX.out b17 HB.out.1).2.1.2 HSQ.out
  rw [HE.out.2] at G
  simp only [← HLM.out] at G
  go_wp2_with fail
  refine G.mono ?_
  rintro ee b18 ⟨a2, c2, rfl, hf, hb⟩
  have HX := Lib.hid (And.intro (HB.out.1.trans (hb.mono HB.out.1.size)) (HB.out.2.mono hb))
  clear hb HB G hf k0 k1 k2 k3 k4 k5 k6 k7 k8 k9
  have HB := HX
  clear HX
  go_wp2_with fail
  refine HK18.out _ _ ?_
  clear HK18 K18
  refine wp_seq_hid ?_
  intro K19 HK19
  obtain ⟨k0, k1, k2, k3, k4, k5, k6, k7, k8, k9⟩ := (HPX.out b18 HB.out.1).1.1
  obtain ⟨j0, j1⟩ := (HPX.out b18 HB.out.1).2.2.1
  have G := gives15 (f := f) (c := fc) (HPX.out b18 HB.out.1).1.2 HSP.out (HPX.out b18 HB.out.1).2.2.2.1 (by have := HFS.out; omega)
  rw [HGV.out.1] at G
  go_wp2_with fail
  refine G.mono ?_
  rintro ee b19 ⟨a3, c3, rfl, hsp, hb⟩
  have HX := Lib.hid (And.intro (HB.out.1.trans (hb.mono HB.out.1.size)) (And.intro (HB.out.2.mono hb) hsp))
  clear hb HB G hsp j0 j1 k0 k1 k2 k3 k4 k5 k6 k7 k8 k9
  have HB := HX
  clear HX
  go_wp2_with fail
  refine HK19.out _ _ ?_
  clear HK19 K19
  refine wp_seq_hid ?_
  intro K20 HK20
  obtain ⟨k0, k1, k2, k3, k4, k5, k6, k7, k8, k9⟩ := (HPX.out b19 HB.out.1).2.1.1
  obtain ⟨j0, j1⟩ := (HPX.out b19 HB.out.1).2.2.2.2.1
  have G := gives15 (f := f.back) (c := rc) (HPX.out b19 HB.out.1).2.1.2 HSQ.out (HPX.out b19 HB.out.1).2.2.2.2.2.1 (by have := HFS.out; show f.slots.reverse.length ≤ 1000; rw [List.length_reverse]; omega)
  rw [HGV.out.2] at G
  simp only [List.length_reverse] at G
  go_wp2_with fail
  refine G.mono ?_
  rintro ee b20 ⟨a4, c4, rfl, hsp, hb⟩
  have HX := Lib.hid (And.intro (HB.out.1.trans (hb.mono HB.out.1.size)) (And.intro (HB.out.2.1.mono hb) (And.intro (HB.out.2.2.mono hb) hsp)))
  clear hb HB G hsp j0 j1 k0 k1 k2 k3 k4 k5 k6 k7 k8 k9
  have HB := HX
  clear HX
  go_wp2_with fail
  refine HK20.out _ _ ?_
  clear HK20 K20
  refine wp_seq_hid ?_
  intro K21 HK21
  obtain ⟨k0, k1, k2, k3, k4, k5, k6, k7, k8, k9⟩ := (HPX.out b20 HB.out.1).1.1
  have G := play26 (HPX.out b20 HB.out.1).1.2 HSP.out
  rw [HPL.out.1] at G
  go_wp2_with fail
  refine G.mono ?_
  rintro ee b21 ⟨rfl, hb⟩
  have HX := Lib.hid (And.intro (HB.out.1.trans (hb.mono HB.out.1.size)) (And.intro (HB.out.2.1.mono hb) (And.intro (HB.out.2.2.1.mono hb) (HB.out.2.2.2.mono hb))))
  clear hb HB G k0 k1 k2 k3 k4 k5 k6 k7 k8 k9
  have HB := HX
  clear HX
  go_wp2_with fail
  refine HK21.out _ _ ?_
  clear HK21 K21
  refine wp_seq_hid ?_
  intro K22 HK22
  obtain ⟨k0, k1, k2, k3, k4, k5, k6, k7, k8, k9⟩ := (HPX.out b21 HB.out.1).2.1.1
  have G := play26 (HPX.out b21 HB.out.1).2.1.2 HSQ.out
  rw [HPL.out.2] at G
  go_wp2_with fail
  refine G.mono ?_
  rintro ee b22 ⟨rfl, hb⟩
  have HX := Lib.hid (And.intro (HB.out.1.trans (hb.mono HB.out.1.size)) (And.intro (HB.out.2.1.mono hb) (And.intro (HB.out.2.2.1.mono hb) (HB.out.2.2.2.mono hb))))
  clear hb HB G k0 k1 k2 k3 k4 k5 k6 k7 k8 k9
  have HB := HX
  clear HX
  go_wp2_with fail
  refine HK22.out _ _ ?_
  clear HK22 K22
  refine wp_seq_hid ?_
  intro K23 HK23
  obtain ⟨k0, k1, k2, k3, k4, k5, k6, k7, k8, k9⟩ := (HPX.out b22 HB.out.1).1.1
  have G := starts30 (HPX.out b22 HB.out.1).1.2 HSP.out
  rw [HST.out.1] at G
  go_wp2_with fail
  refine G.mono ?_
  rintro ee b23 ⟨rfl, hb⟩
  have HX := Lib.hid (And.intro (HB.out.1.trans (hb.mono HB.out.1.size)) (And.intro (HB.out.2.1.mono hb) (And.intro (HB.out.2.2.1.mono hb) (HB.out.2.2.2.mono hb))))
  clear hb HB G k0 k1 k2 k3 k4 k5 k6 k7 k8 k9
  have HB := HX
  clear HX
  go_wp2_with fail
  refine HK23.out _ _ ?_
  clear HK23 K23
  refine wp_seq_hid ?_
  intro K24 HK24
  obtain ⟨k0, k1, k2, k3, k4, k5, k6, k7, k8, k9⟩ := (HPX.out b23 HB.out.1).2.1.1
  have G := starts30 (HPX.out b23 HB.out.1).2.1.2 HSQ.out
  rw [HST.out.2] at G
  go_wp2_with fail
  refine G.mono ?_
  rintro ee b24 ⟨rfl, hb⟩
  have HX := Lib.hid (And.intro (HB.out.1.trans (hb.mono HB.out.1.size)) (And.intro (HB.out.2.1.mono hb) (And.intro (HB.out.2.2.1.mono hb) (HB.out.2.2.2.mono hb))))
  clear hb HB G k0 k1 k2 k3 k4 k5 k6 k7 k8 k9
  have HB := HX
  clear HX
  go_wp2_with fail
  refine HK24.out _ _ ?_
  clear HK24 K24
  have HSPN := Lib.hid HB.out.2.2.1
  have HTPN := Lib.hid HB.out.2.2.2
  have HBU := Lib.hid HB.out.1
  clear HB
  refine wp_seq_hid ?_
  intro K25 HK25
  go_wp2_with fail
  go_loopw [147] (fun i wr => ∃ v : Nat, v ≤ p.wanted.length ∧ i = .int .i64 v ∧ Hid (Below b24.heap.size b24 wr)) (fun i _ => p.wanted.length - (intOf i).toNat)
  case atStart => exact ⟨0, by omega, rfl, Below.refl _ _⟩
  case round =>
    obtain ⟨v, hv, rfl, HR⟩ := hrel
    by_cases hvt : v < p.wanted.length
    · have HBR := Lib.hid (HBU.out.trans (HR.out.mono HBU.out.size))
      have k6 := (HPX.out wr HBR.out).1.1.c6
      obtain ⟨ab, ao, haw, p0⟩ := (HPX.out wr HBR.out).1.2.wanted v hvt
      obtain ⟨gb, go, hgw, q0⟩ := (HPX.out wr HBR.out).2.2.2.2.2.2.1 v hvt
      cases hgw
      rw [Nat.zero_add] at q0
      rw [haw] at k6
      have K6 := fun y : Aft wr.heap.size wr => cell_stays y.h k6
      have P0 := fun y : Aft wr.heap.size wr => cell_stays y.h p0
      have Q0 := fun y : Aft wr.heap.size wr => cell_stays y.h q0
      have HAW := Lib.hid haw
      clear k6 p0 q0 haw
      go_wp2_with fail
      refine wp_region_aft mixed (by kernel_rfl) ?_
      repeat (go_big_quiet_step (fail))
      refine wpQuiet_nil ?_
      rintro _ ⟨y1, rfl⟩
      have HY : Hid (Below wr.heap.size wr y1.v) := y1.h
      go_wp2_with fail
      go_roundw
      case rel => exact ⟨v + 1, by omega, by go_num, HR.out.trans (HY.out.mono HR.out.size)⟩
      case measure => simp [intOf]; omega
    · have HBR := Lib.hid (HBU.out.trans (HR.out.mono HBU.out.size))
      have HSP2 := Lib.hid (HSPN.out.mono HR.out)
      have HTP2 := Lib.hid (HTPN.out.mono HR.out)
      go_wp2_with fail
      refine HK25.out _ _ ?_
      clear HR
      revert HBR HSP2 HTP2
      generalize wr = w5
      intro HBR HSP2 HTP2
      refine wp_seq_hid ?_
      intro K31 HK31
      go_wp2_with fail
      refine HK31.out _ _ ?_
      refine wp_seq_hid ?_
      intro K33 HK33
      go_wp2_with fail
      go_loopw [215] (fun i wr => ∃ v : Nat, v ≤ s.length ∧ i = .int .i64 v ∧ Hid (Below w5.heap.size w5 wr)) (fun i _ => s.length - (intOf i).toNat)
      case atStart => exact ⟨0, by omega, rfl, Below.refl _ _⟩
      case round =>
        obtain ⟨v, hv, rfl, HR⟩ := hrel
        by_cases hvt : v < s.length
        · obtain ⟨sb, so, hsa, p0, p1⟩ := (HSP2.out.mono HR.out) v hvt
          obtain ⟨i, hi⟩ : ∃ i : Nat, i = s.length - 1 - v := ⟨_, rfl⟩
          have hil : i < s.length := by omega
          obtain ⟨tb, t_o, hta, r0, r1⟩ := (HTP2.out.mono HR.out) i (by simpa using hil)
          have hgs : gs s.reverse i = gs s v := by rw [gs_rev hil]; congr 1; omega
          rw [hgs] at r0 r1
          rw [hsa, hta]
          have HSA := Lib.hid (And.intro hsa hta)
          have x1 : IntKind.i64.wrap ((s.length : Int) - 1) = (s.length : Int) - 1 := IntWalk.i64_in _ (by omega)
          have x2 : IntKind.i64.wrap ((s.length : Int) - 1 - (v : Int)) = (i : Int) := by rw [IntWalk.i64_in _ (by omega)]; omega
          have hneq : ∀ w, (binOp .neq 23 (.agg #[.int .i64 (gs s v).lo, .int .i64 (gs s v).hi]) (.agg #[.int .i64 (gs s v).lo, .int .i64 (gs s v).hi])).run Try.prog w = .ok (.bool false) w := fun w => by
            have := neq23 (gs s v) (gs s v) w
            simpa using this
          have HVT := Lib.hid hvt
          clear hsa hta hgs hi
          revert p0 p1 r0 r1 hneq
          generalize (gs s v).lo = z1
          generalize (gs s v).hi = z2
          intro p0 p1 r0 r1 hneq
          have P0 := fun y : Aft wr.heap.size wr => cell_stays y.h p0
          have P1 := fun y : Aft wr.heap.size wr => cell_stays y.h p1
          have R0 := fun y : Aft wr.heap.size wr => cell_stays y.h r0
          have R1 := fun y : Aft wr.heap.size wr => cell_stays y.h r1
          clear p0 p1 r0 r1
          go_wp2_with fail
          refine wp_region_aft mixed (by kernel_rfl) ?_
          repeat (go_big_quiet_step (fail))
          refine wpQuiet_nil ?_
          rintro _ ⟨y1, rfl⟩
          have HY : Hid (Below wr.heap.size wr y1.v) := y1.h
          go_wp2_with fail
          go_roundw
          case rel => exact ⟨v + 1, by have := HVT.out; omega, by go_num, HR.out.trans (HY.out.mono HR.out.size)⟩
          case measure => have := HVT.out; simp [intOf]; omega
        · go_wp2_with fail
          refine HK33.out _ _ ?_
          go_wp2_with fail
          refine (awake14 (w := _)).mono ?_
          rintro ee c9 ⟨rfl, hb⟩
          have HX2 := Lib.hid (HBR.out.trans ((HR.out.trans (hb.mono HR.out.size)).mono HBR.out.size))
          clear hb
          go_wp2_with fail
          go_ret
          exact ⟨rfl, (HPX.out _ HX2.out).2.2.2.2.2.2.2⟩
end Go.Proofs.Ytjkhclijmcmdjaa
namespace Go.Proofs.Ytjkhclijmcmdjaa
open Go.RowKit
set_option linter.unusedVariables false
set_option linter.unusedSimpArgs false
theorem icopyT {W w : World} {av : Option Addr} {l : List Int} {cv : Nat} {xs : Value} (h0 : 0 < l.length) (hk : l.length ≤ 16) (hb : Below W.heap.size W w) (hx : w.ownsRow W.heap.size 3 1 xs 0 []) (hi : IsInts w av l) :
    ∃ (g c : Nat) (w' : World), (Builtin.append_ #[24, 24] 24 #[xs, .slice av l.length cv]).run Try.prog w = .ok (.slice (some ⟨g, 0, none⟩) l.length c) w' ∧ W.heap.size ≤ g ∧ IsInts w' (some ⟨g, 0, none⟩) l ∧ Below W.heap.size W w' := by
  obtain ⟨r, w', h1, h2, h3, _⟩ := copy_new (cv := cv) hk hb hx hi
  obtain ⟨g, cap, e, hg, _⟩ := own_cell h3 h0
  cases hr : r.1 with
  | none => rw [hr] at e; cases e
  | some ad =>
    rw [hr] at e h1 h3
    cases e
    exact ⟨g, r.2, w', h1, hg, own_ints h3, h2⟩
theorem take_gd {l : List Dl} {k : Nat} (h : k < l.length) : l.take (k + 1) = l.take k ++ [gd l k] := by
  rw [List.take_add_one]
  simp [gd, h]
/-- A press that is being turned. -/
abbrev Prs.half (p : Prs) (rw : Option Addr) (cw : Nat) (x : Value) : Array Value := #[.int .i64 p.room, .int .i64 p.formes, .int .i64 p.slo, .int .i64 p.shi, .int .i64 p.make, .int .i64 p.sheet, .slice rw p.wanted.length cw, .int .i64 p.paper, .int .i64 p.money, x]
structure TurI (p : Prs) (rw : Option Addr) (cw b7 : Nat) (w1 W : World) (N k : Nat) (r : Row) (v : World) : Prop where
  below : Below w1.heap.size w1 v
  size : W.heap.size ≤ v.heap.size
  h7 : v.heap[b7]? = some (.cells (p.half rw cw (.slice r.1 k r.2)) 27 (0, 0))
  row : IsInts v rw p.wanted.reverse
  dls : DlsI W N ((p.deals.take k).map (Dl.back p.wanted.length)) r v
theorem TurI.mono {p : Prs} {rw : Option Addr} {cw b7 N k : Nat} {w1 W v v' : World} {r : Row} (h : TurI p rw cw b7 w1 W N k r v) (hb : Below v.heap.size v v') : TurI p rw cw b7 w1 W N k r v' :=
  ⟨h.below.trans (hb.mono h.below.size), Nat.le_trans h.size hb.size, (hb.block _ (heap_lt h.h7)).trans h.h7, h.row.mono hb, h.dls.mono hb⟩
theorem TurI.set {p : Prs} {rw : Option Addr} {cw b7 N k b j : Nat} {w1 W v : World} {r : Row} {x : Value} (h : TurI p rw cw b7 w1 W N k r v) (hr : ∀ b o, rw = some ⟨b, o, none⟩ → b7 < b ∧ b < W.heap.size) (h1 : w1.heap.size ≤ b) (h7 : b7 ≠ b) (hN : N ≤ b) : TurI p rw cw b7 w1 W N k r (v.setCell ⟨b, j, none⟩ x) :=
  ⟨h.below.setCell (p := ⟨b, j, none⟩) h1 _, by rw [World.size_setCell]; exact h.size, (Below.heap_setCell _ _ _ _ h7).trans h.h7, ints_setC h.row fun b' o e => by have := (hr b' o e).2; have := h.dls.low; omega, h.dls.set (.inr hN)⟩
/-- One deal more. -/
theorem TurI.more {p : Prs} {rw : Option Addr} {cw b7 N k : Nat} {w1 W v : World} {r : Row} {d2 : Dl} {a : Option Addr} {c ms : Nat} (h : TurI p rw cw b7 w1 W N k r v) (hr : ∀ b o, rw = some ⟨b, o, none⟩ → b7 < b ∧ b < W.heap.size) (h17 : w1.heap.size ≤ b7) (h7W : b7 < W.heap.size) (hk : k < p.deals.length) (hkl : k ≤ 1000) (hd : (gd p.deals k).back p.wanted.length = d2)
    (hm : v.heap[ms]? = some (.cells (d2.arr a c) 62 (0, 0))) (hs : IsInts v a d2.forme.slots) (hf : ∀ b o, a = some ⟨b, o, none⟩ → N ≤ b ∧ b < v.heap.size) :
    ∃ (r' : Row) (w' : World), (Builtin.append_ #[25, 25] 25 #[.slice r.1 k r.2, .slice (some ⟨ms, 0, none⟩) 1 1]).run Try.prog v = .ok (.slice r'.1 (k + 1) r'.2) w' ∧ w'.heap[b7]? = some (.cells (p.half rw cw (.slice r.1 k r.2)) 27 (0, 0)) ∧ ∃ N', TurI p rw cw b7 w1 W N' (k + 1) r' (w'.setCell ⟨b7, 9, none⟩ (.slice r'.1 (k + 1) r'.2)) := by
  have hlen : ((p.deals.take k).map (Dl.back p.wanted.length)).length = k := by rw [List.length_map, List.length_take]; omega
  have hbw : w1.heap.size ≤ W.heap.size := by omega
  obtain ⟨r', w', hrun, h2, h3, h4, h5⟩ := h.dls.more (by omega) hm hs hf
  rw [hlen] at hrun
  have e1 : (p.deals.take (k + 1)).map (Dl.back p.wanted.length) = (p.deals.take k).map (Dl.back p.wanted.length) ++ [d2] := by rw [take_gd hk, List.map_append, ← hd]; rfl
  have k7 : w'.heap[b7]? = some (.cells (p.half rw cw (.slice r.1 k r.2)) 27 (0, 0)) := (h3 b7 (heap_lt h.h7) (.inl h7W)).trans h.h7
  have hrow : IsInts w' rw p.wanted.reverse := fun i hi => by
    obtain ⟨b, o, e, hc⟩ := h.row i hi
    have := (hr b o e).2
    exact ⟨b, o, e, by rw [cell_eq (h3 b (by have := h.size; omega) (.inl this))]; exact hc⟩
  refine ⟨r', w', hrun, k7, w'.heap.size, (h5 _ _ h.below hbw).setCell (p := ⟨b7, 9, none⟩) h17 _, by rw [World.size_setCell]; exact Nat.le_trans h.size h4, heap_setCell_at (k := 9) k7 _, ints_setC hrow fun b o e => by have := (hr b o e).1; omega, ?_⟩
  rw [e1]
  exact h2.set (.inl h7W)
theorem back_arr {d : Dl} {n : Nat} {a : Option Addr} {c : Nat} (h : d.kind ≠ 2) : (#[.int .i64 d.kind, .slice a d.forme.slots.length c, .int .i64 d.forme.times, .int .i64 d.view, .int .i64 d.many, .int .i64 d.pence] : Array Value) = (d.back n).arr a c := by
  simp [Dl.back, Fme.back, h]
theorem back_arr2 {d : Dl} {n : Nat} {a : Option Addr} {c : Nat} (h : d.kind = 2) : (#[.int .i64 d.kind, .slice a d.forme.slots.length c, .int .i64 d.forme.times, .int .i64 d.view, .int .i64 d.many, .int .i64 d.pence] : Array Value).setIfInBounds 3 (.int .i64 ((n : Int) - 1 - d.view)) = (d.back n).arr a c := by
  simp [Dl.back, Fme.back, h]
theorem view_of {p : Prs} {d : Dl} (h : dealOk p d = true) (h2 : d.kind = 2) : 0 ≤ d.view ∧ d.view < p.wanted.length := by
  unfold dealOk at h
  rw [if_neg (by omega), if_neg (by omega), if_pos h2] at h
  simp only [Bool.and_eq_true, inR, decide_eq_true_eq] at h
  omega
theorem turn_small {p : Prs} (h : p.Small) : p.turn.Small := ⟨by show p.wanted.reverse.length ≤ 20; rw [List.length_reverse]; exact h.wanted, by show (p.deals.map _).length ≤ 60; rw [List.length_map]; exact h.deals, fun d hd => by
  obtain ⟨d', hd', rfl⟩ := List.mem_map.1 hd
  show d'.forme.slots.reverse.length ≤ 20
  rw [List.length_reverse]
  exact h.slots d' hd'⟩
theorem TurI.press {p : Prs} {rw : Option Addr} {cw b7 N : Nat} {w1 W v : World} {r : Row} (h : TurI p rw cw b7 w1 W N p.deals.length r v) : PrsC v b7 p.turn ⟨rw, cw, r.1, r.2⟩ ∧ IsPrs v p.turn ⟨rw, cw, r.1, r.2⟩ := by
  have h7 := h.h7
  have e : p.half rw cw (.slice r.1 p.deals.length r.2) = p.turn.arr ⟨rw, cw, r.1, r.2⟩ := by
    have e1 : p.turn.wanted.length = p.wanted.length := List.length_reverse
    have e2 : p.turn.deals.length = p.deals.length := List.length_map _
    unfold Prs.half Prs.arr
    rw [e1, e2]
    rfl
  rw [e] at h7
  have hd := h.dls.dls
  rw [List.take_length] at hd
  exact ⟨prs_cells h7, h.row, hd⟩
noncomputable def turMC : Code := (Try.f12.body.bind (fromRegion 7)).getD .skip
set_option maxRecDepth 100000 in
set_option maxHeartbeats 16000000 in
theorem turned_mid {p : Prs} {A : PrsA} {b2 b3 b7 : Nat} {f : Fme} {fa : Option Addr} {fc : Nat} {w w1 W : World} {rw : Option Addr} {cw : Nat} {dd : List Deferred}
    (KP : Hid (∀ v, Below w1.heap.size w1 v → PrsC v b2 p A ∧ IsPrs v p A ∧ (v.cell? ⟨b3, 0, none⟩ = some (.slice fa f.slots.length fc) ∧ v.cell? ⟨b3, 1, none⟩ = some (.int .i64 f.times)) ∧ IsInts v fa f.slots ∧ Below w.heap.size w v))
    (HB1 : Hid (Below w1.heap.size w1 W)) (H7 : Hid (W.heap[b7]? = some (.cells (p.half rw cw (.slice none 0 0)) 27 (0, 0)))) (HLO : Hid (w1.heap.size ≤ b7))
    (HRL : Hid (∀ b o, rw = some ⟨b, o, none⟩ → b7 < b ∧ b < W.heap.size)) (HRI : Hid (IsInts W rw p.wanted.reverse))
    (HSP : Hid p.Small) (HFS : Hid (f.slots.length ≤ 20)) (HV : Hid (p.valid = true)) (hdd : dd = [])
    {s0 s1 s4 s8 s9 s10 s11 s12 s13 s14 s15 s16 s17 s18 s19 s20 s21 s22 s23 s24 s25 s26 s27 s28 s29 s30 s31 s32 s33 s34 s35 s36 s37 s38 s39 s40 s41 s42 s43 s44 s45 s46 s47 s48 s49 s50 s51 s52 s53 s54 s55 s56 s57 s58 s59 s60 s61 s62 s63 s64 s65 s66 s67 s68 s69 s70 s71 s72 s73 s74 s75 s76 s77 s78 s79 s80 s81 s82 s83 s84 s85 s86 s87 s88 s89 s90 s91 s92 s93 s94 s95 s96 s97 s98 s99 s100 s101 s102 s103 s104 s105 s106 s107 s108 s109 s110 s111 s112 s113 s114 s115 s116 s117 s118 s119 s120 s121 s122 s123 s124 s125 s126 s127 s128 s129 s130 s131 s132 s133 s134 s135 s136 s137 s138 s139 s140 s141 s142 s143 s144 s145 s146 s147 s148 s149 s150 s151 s152 s153 s154 s155 s156 s157 s158 s159 s160 s161 s162 s163 s164 s165 s166 s167 s168 s169 s170 s171 s172 s173 s174 s175 s176 s177 s178 s179 s180 s181 s182 s183 s184 s185 s186 s187 s188 s189 s190 s191 s192 s193 s194 s195 s196 s197 s198 s199 s200 s201 s202 s203 s204 s205 s206 s207 s208 s209 s210 s211 s212 s213 s214 s215 s216 s217 s218 s219 s220 s221 s222 s223 s224 s225 s226 s227 s228 s229 s230 s231 s232 : Value} :
    Code.wp Try.prog turMC (bodyPost Try.prog Try.f12 fun e w' => e = .returned (.bool true) ∧ Below w.heap.size w w') { tmps := List.toArray (s0 :: s1 :: .pointer (some ⟨b2, 0, none⟩) :: .pointer (some ⟨b3, 0, none⟩) :: s4 :: .int .i64 p.wanted.length :: .func (.func 38) #[] #[] :: .pointer (some ⟨b7, 0, none⟩) :: s8 :: s9 :: s10 :: s11 :: s12 :: s13 :: s14 :: s15 :: s16 :: s17 :: s18 :: s19 :: s20 :: s21 :: s22 :: s23 :: s24 :: s25 :: s26 :: s27 :: s28 :: s29 :: s30 :: s31 :: s32 :: s33 :: s34 :: s35 :: s36 :: s37 :: s38 :: s39 :: s40 :: s41 :: s42 :: s43 :: s44 :: s45 :: s46 :: s47 :: s48 :: s49 :: s50 :: s51 :: s52 :: s53 :: s54 :: s55 :: s56 :: s57 :: s58 :: s59 :: s60 :: s61 :: s62 :: s63 :: s64 :: s65 :: s66 :: s67 :: s68 :: s69 :: s70 :: s71 :: s72 :: s73 :: s74 :: s75 :: s76 :: s77 :: s78 :: s79 :: s80 :: s81 :: s82 :: s83 :: s84 :: s85 :: s86 :: s87 :: s88 :: s89 :: s90 :: s91 :: s92 :: s93 :: s94 :: s95 :: s96 :: s97 :: s98 :: s99 :: s100 :: s101 :: s102 :: s103 :: s104 :: s105 :: s106 :: s107 :: s108 :: s109 :: s110 :: s111 :: s112 :: s113 :: s114 :: s115 :: s116 :: s117 :: s118 :: s119 :: s120 :: s121 :: s122 :: s123 :: s124 :: s125 :: s126 :: s127 :: s128 :: s129 :: s130 :: s131 :: s132 :: s133 :: s134 :: s135 :: s136 :: s137 :: s138 :: s139 :: s140 :: s141 :: s142 :: s143 :: s144 :: s145 :: s146 :: s147 :: s148 :: s149 :: s150 :: s151 :: s152 :: s153 :: s154 :: s155 :: s156 :: s157 :: s158 :: s159 :: s160 :: s161 :: s162 :: s163 :: s164 :: s165 :: s166 :: s167 :: s168 :: s169 :: s170 :: s171 :: s172 :: s173 :: s174 :: s175 :: s176 :: s177 :: s178 :: s179 :: s180 :: s181 :: s182 :: s183 :: s184 :: s185 :: s186 :: s187 :: s188 :: s189 :: s190 :: s191 :: s192 :: s193 :: s194 :: s195 :: s196 :: s197 :: s198 :: s199 :: s200 :: s201 :: s202 :: s203 :: s204 :: s205 :: s206 :: s207 :: s208 :: s209 :: s210 :: s211 :: s212 :: s213 :: s214 :: s215 :: s216 :: s217 :: s218 :: s219 :: s220 :: s221 :: s222 :: s223 :: s224 :: s225 :: s226 :: s227 :: s228 :: s229 :: s230 :: s231 :: s232 :: []), defers := dd } W := by
  subst hdd
  conv => arg 2; whnf
  have hw4 := wanted_of HV.out
  have hdl := HSP.out.deals
  have H7W : Hid (b7 < W.heap.size) := heap_lt H7.out
  have HI0 : Hid (TurI p rw cw b7 w1 W W.heap.size 0 (none, 0) W) := ⟨HB1.out, Nat.le_refl _, H7.out, HRI.out, DlsI.start W⟩
  obtain ⟨k0, k1, k2, k3, k4, k5, k6, k7, k8, m9⟩ := (KP.out W HB1.out).1
  clear k0 k1 k2 k3 k4 k5 k6 k7 k8 H7 HRI
  refine wp_seq_hid ?_
  intro K7 HK7
  go_wp2_with fail
  clear m9
  go_loopw [61] (fun i wr => ∃ (k : Nat) (r : Row) (N : Nat), k ≤ p.deals.length ∧ i = .int .i64 k ∧ Hid (TurI p rw cw b7 w1 W N k r wr)) (fun i _ => p.deals.length - (intOf i).toNat)
  case atStart => exact ⟨0, _, _, by omega, rfl, HI0.out⟩
  case round =>
    obtain ⟨k, r, N, hk, rfl, HW⟩ := hrel
    by_cases hlk : k < p.deals.length
    · obtain ⟨bb, o', hab, ai, ci, c0, c1, c2, c3, c4, c5, c6⟩ := (KP.out wr HW.out.below).2.1.deals k hlk
      rw [hab]
      have HAB := Lib.hid hab
      have HLK := Lib.hid hlk
      have hmem : gd p.deals k ∈ p.deals := by simp [gd, hlk]
      have HDO := Lib.hid (And.intro (deals_of HV.out _ hmem) (HSP.out.slots _ hmem))
      have HB : Hid (∃ d2, (gd p.deals k).back p.wanted.length = d2) := ⟨_, rfl⟩
      have hb5 : Below wr.heap.size wr (wr.alloc (.cells ((gd p.deals k).arr ai ci) 62)) := (Below.refl _ wr).alloc (Nat.le_refl _) _
      have H5 : Hid ((wr.alloc (.cells ((gd p.deals k).arr ai ci) 62)).heap[wr.heap.size]? = some (.cells ((gd p.deals k).arr ai ci) 62 (0, 0)) ∧ TurI p rw cw b7 w1 W N k r (wr.alloc (.cells ((gd p.deals k).arr ai ci) 62)) ∧ IsInts (wr.alloc (.cells ((gd p.deals k).arr ai ci) 62)) ai (gd p.deals k).forme.slots ∧ N ≤ wr.heap.size ∧ W.heap.size ≤ wr.heap.size) := ⟨World.alloc_heap_new .., HW.out.mono hb5, c6.mono hb5, HW.out.dls.size, HW.out.size⟩
      obtain ⟨d, hdk⟩ : ∃ d, gd p.deals k = d := ⟨_, rfl⟩
      rw [hdk] at c0 c1 c2 c3 c4 c5 HDO H5
      have HDK := Lib.hid hdk
      clear hab hb5 c6 hmem HW HB hdk
      go_upto_region 10 with fail
      clear c0 c1 c2 c3 c4 c5
      revert H5
      generalize wr.alloc (.cells (d.arr ai ci) 62) = w5
      generalize wr.heap.size = b9
      intro H5
      obtain ⟨e0, e1, e2, e3, e4, e5⟩ := dl_cells H5.out.1
      have cf := cf38
      go_wp2_with fail
      refine (back38 H5.out.2.2.1 HDO.out.2).mono ?_
      clear e0 e1 e2 e3 e4 e5 cf
      rintro e w6 ⟨⟨ra, rc⟩, rfl, hi, hf, hb6⟩
      have hn9 : b7 ≠ b9 := by have := H7W.out; have := H5.out.2.2.2.2; omega
      have h9 : w1.heap.size ≤ b9 := by have := HLO.out; have := H7W.out; have := H5.out.2.2.2.2; omega
      have h95 := heap_lt H5.out.1
      have q6 := (hb6.block _ h95).trans H5.out.1
      have HX := Lib.hid (heap_setCell_at (k := 1) q6 (.slice ra d.forme.slots.length rc))
      have HT := Lib.hid ((H5.out.2.1.mono hb6).set (j := 1) (x := .slice ra d.forme.slots.length rc) HRL.out h9 hn9 H5.out.2.2.2.1)
      have HRA : Hid (IsInts (w6.setCell ⟨b9, 1, none⟩ (.slice ra d.forme.slots.length rc)) ra d.forme.slots.reverse) := ints_setC hi fun b o e => by have := (hf b o e).1; omega
      have HRF : Hid (∀ b o, ra = some ⟨b, o, none⟩ → b9 < b ∧ b < (w6.setCell ⟨b9, 1, none⟩ (.slice ra d.forme.slots.length rc)).heap.size) := fun b o e => by
        rw [World.size_setCell]
        have := hf b o e
        omega
      have HN9 := Lib.hid (And.intro hn9 (And.intro h9 H5.out.2.2.2.1))
      have y1 : w6.cell? ⟨b9, 1, none⟩ = some (.slice ai d.forme.slots.length ci) := by rw [cell_of_heap q6]; rfl
      have f9 : ∀ j, w6.frozen? ⟨b9, j, none⟩ = false := fun j => frozen_of_heap q6
      clear hi hf hb6 h95 q6 H5 hn9 h9
      go_upto_region 11 with fail
      clear y1 f9
      revert HX HT HRA HRF
      generalize w6.setCell ⟨b9, 1, none⟩ (.slice ra d.forme.slots.length rc) = w7
      intro HX HT HRA HRF
      have y0 : w7.cell? ⟨b9, 0, none⟩ = some (.int .i64 d.kind) := by rw [cell_of_heap HX.out]; rfl
      by_cases hk2 : d.kind = 2
      · have hvw := view_of HDO.out.1 hk2
        have HK2 := Lib.hid hk2
        have x1 : IntKind.i64.wrap ((p.wanted.length : Int) - 1) = (p.wanted.length : Int) - 1 := IntWalk.i64_in _ (by omega)
        have x2 : IntKind.i64.wrap ((p.wanted.length : Int) - 1 - d.view) = (p.wanted.length : Int) - 1 - d.view := IntWalk.i64_in _ (by omega)
        have y3 : w7.cell? ⟨b9, 3, none⟩ = some (.int .i64 d.view) := by rw [cell_of_heap HX.out]; rfl
        have f9 : ∀ j, w7.frozen? ⟨b9, j, none⟩ = false := fun j => frozen_of_heap HX.out
        have HX2 := Lib.hid (heap_setCell_at (k := 3) HX.out (.int .i64 ((p.wanted.length : Int) - 1 - d.view)))
        have HT2 := Lib.hid (HT.out.set (j := 3) (x := .int .i64 ((p.wanted.length : Int) - 1 - d.view)) HRL.out HN9.out.2.1 HN9.out.1 HN9.out.2.2)
        have HRA2 : Hid (IsInts (w7.setCell ⟨b9, 3, none⟩ (.int .i64 ((p.wanted.length : Int) - 1 - d.view))) ra d.forme.slots.reverse) := ints_setC HRA.out fun b o e => by have := (HRF.out b o e).1; omega
        have HRF2 : Hid (∀ b o, ra = some ⟨b, o, none⟩ → b9 < b ∧ b < (w7.setCell ⟨b9, 3, none⟩ (.int .i64 ((p.wanted.length : Int) - 1 - d.view))).heap.size) := fun b o e => by
          rw [World.size_setCell]
          exact HRF.out b o e
        have hkd : (d.kind == 2) = true := by simpa using hk2
        clear hvw hk2 HX HT HRA HRF
        go_upto_region 13 with fail
        clear x1 x2 y3 f9 hkd
        revert HX2 HT2 HRA2 HRF2
        generalize w7.setCell ⟨b9, 3, none⟩ (.int .i64 ((p.wanted.length : Int) - 1 - d.view)) = w8
        intro HX HT HRA HRF
        have hx2 : w8.heap[b9]? = some (.cells ((d.back p.wanted.length).arr ra rc) 62 (0, 0)) := by have h := HX.out; rw [← back_arr2 HK2.out]; exact h
        clear HX
        have HX := Lib.hid hx2
        clear hx2
        clear y0
        obtain ⟨d2, hd2⟩ : ∃ d2, (gd p.deals k).back p.wanted.length = d2 := ⟨_, rfl⟩
        have HD2 := Lib.hid hd2
        have hsl : d2.forme.slots = d.forme.slots.reverse := by rw [← hd2, HDK.out]; rfl
        rw [← HDK.out, hd2] at HX
        have HRA2 := HRA
        rw [← hsl] at HRA2
        clear hd2 hsl HRA
        obtain ⟨e0, e1, e2, e3, e4, e5⟩ := dl_cells HX.out
        have z9 : w8.cell? ⟨b7, 9, none⟩ = some (.slice r.1 k r.2) := by rw [cell_of_heap HT.out.h7]; rfl
        have h8 : Below w8.heap.size w8 (w8.alloc (.cells (d2.arr ra rc) 62)) := (Below.refl _ w8).alloc (Nat.le_refl _) _
        obtain ⟨r', w9, hr, h79, N', hT2⟩ := (HT.out.mono h8).more HRL.out HLO.out H7W.out HLK.out (by have := HSP.out.deals; have := HLK.out; omega) HD2.out (World.alloc_heap_new w8 (.cells (d2.arr ra rc) 62)) (HRA2.out.mono h8) (fun b o e => by have h1 := HRF.out b o e; have h2 := h8.size; have h3 := HN9.out.2.2; exact ⟨by omega, by omega⟩)
        have HR := Lib.hid hr
        have HT2 := Lib.hid hT2
        have z9' : w9.cell? ⟨b7, 9, none⟩ = some (.slice r.1 k r.2) := by rw [cell_of_heap h79]; rfl
        have f7 : w9.frozen? ⟨b7, 9, none⟩ = false := frozen_of_heap h79
        clear hr hT2 h79 h8
        go_wp2_with (at_builtin; refine wpList_append_run rfl (.tmp 82) (.tmp 84) 25 rfl (.slice r.1 k r.2) (.slice (some ⟨w8.heap.size, 0, none⟩) 1 1) (.slice r'.1 (k + 1) r'.2) w9 rfl rfl HR.out ?_)
        clear e0 e1 e2 e3 e4 e5 z9 z9' f7
        go_roundw
        case rel => exact ⟨k + 1, r', N', by have := HLK.out; omega, by go_num, HT2.out⟩
        case measure => have := HLK.out; simp [intOf]; omega
      · have HK2 := Lib.hid hk2
        clear hk2
        have hx2 : w7.heap[b9]? = some (.cells ((d.back p.wanted.length).arr ra rc) 62 (0, 0)) := by have h := HX.out; rw [← back_arr HK2.out]; exact h
        clear HX
        have HX := Lib.hid hx2
        clear hx2
        clear y0
        obtain ⟨d2, hd2⟩ : ∃ d2, (gd p.deals k).back p.wanted.length = d2 := ⟨_, rfl⟩
        have HD2 := Lib.hid hd2
        have hsl : d2.forme.slots = d.forme.slots.reverse := by rw [← hd2, HDK.out]; rfl
        rw [← HDK.out, hd2] at HX
        have HRA2 := HRA
        rw [← hsl] at HRA2
        have hkd : (d2.kind == 2) = false := by rw [← hd2, HDK.out]; simpa [Dl.back] using HK2.out
        clear hd2 hsl HRA
        obtain ⟨e0, e1, e2, e3, e4, e5⟩ := dl_cells HX.out
        have z9 : w7.cell? ⟨b7, 9, none⟩ = some (.slice r.1 k r.2) := by rw [cell_of_heap HT.out.h7]; rfl
        have h8 : Below w7.heap.size w7 (w7.alloc (.cells (d2.arr ra rc) 62)) := (Below.refl _ w7).alloc (Nat.le_refl _) _
        obtain ⟨r', w9, hr, h79, N', hT2⟩ := (HT.out.mono h8).more HRL.out HLO.out H7W.out HLK.out (by have := HSP.out.deals; have := HLK.out; omega) HD2.out (World.alloc_heap_new w7 (.cells (d2.arr ra rc) 62)) (HRA2.out.mono h8) (fun b o e => by have h1 := HRF.out b o e; have h2 := h8.size; have h3 := HN9.out.2.2; exact ⟨by omega, by omega⟩)
        have HR := Lib.hid hr
        have HT2 := Lib.hid hT2
        have z9' : w9.cell? ⟨b7, 9, none⟩ = some (.slice r.1 k r.2) := by rw [cell_of_heap h79]; rfl
        have f7 : w9.frozen? ⟨b7, 9, none⟩ = false := frozen_of_heap h79
        clear hr hT2 h79 h8
        go_wp2_with (at_builtin; refine wpList_append_run rfl (.tmp 82) (.tmp 84) 25 rfl (.slice r.1 k r.2) (.slice (some ⟨w7.heap.size, 0, none⟩) 1 1) (.slice r'.1 (k + 1) r'.2) w9 rfl rfl HR.out ?_)
        clear e0 e1 e2 e3 e4 e5 z9 z9' f7
        go_roundw
        case rel => exact ⟨k + 1, r', N', by have := HLK.out; omega, by go_num, HT2.out⟩
        case measure => have := HLK.out; simp [intOf]; omega
    · obtain rfl : k = p.deals.length := by omega
      go_wp2_with fail
      refine HK7.out _ _ ?_
      clear hlk hk
      have hpp := KP.out wr HW.out.below
      have c6 := hpp.1.c6
      have c6b : (wr.alloc (.cells #[] 3)).cell? ⟨b2, 6, none⟩ = some (.slice A.aw p.wanted.length A.cw) := cell_stays ((Below.refl _ wr).alloc (Nat.le_refl _) _) c6
      have hb2 : Below wr.heap.size wr (wr.alloc (.cells #[] 3)) := (Below.refl _ wr).alloc (Nat.le_refl _) _
      obtain ⟨g, cg, v2, hrun, hg, hrow, hbw⟩ := icopyT (W := wr) (w := wr.alloc (.cells #[] 3)) (cv := A.cw) (by omega) (by omega) hb2 (ownsRow_zero (Nat.le_refl _)) (hpp.2.1.wanted.mono hb2)
      have HRUN := Lib.hid hrun
      have HT := Lib.hid (HW.out.mono hbw)
      have HROW := Lib.hid hrow
      clear hpp hb2 hrun hg hrow hbw HW
      refine wp_seq_hid ?_
      intro K15 HK15
      go_upto_region 15 with fail
      go_wp2_with (at_builtin; refine wpList_append_run rfl (.tmp 88) (.tmp 90) 24 rfl (.slice (some ⟨wr.heap.size, 0, none⟩) 0 0) (.slice A.aw p.wanted.length A.cw) (.slice (some ⟨g, 0, none⟩) p.wanted.length cg) v2 rfl rfl HRUN.out ?_)
      refine HK15.out _ _ ?_
      clear HK15 K15 c6 c6b HRUN
      refine wp_seq_hid ?_
      intro K16 HK16
      go_upto_region 16 with fail
      have HKF : Hid (∀ x, Below v2.heap.size v2 x → (x.cell? ⟨b3, 0, none⟩ = some (.slice fa f.slots.length fc) ∧ x.cell? ⟨b3, 1, none⟩ = some (.int .i64 f.times)) ∧ IsInts x fa f.slots) := fun x h => by
        have h1 := KP.out x (HT.out.below.trans (h.mono HT.out.below.size))
        exact ⟨h1.2.2.1, h1.2.2.2.1⟩
      refine wpIn_wide.1 (tur16 (b3 := b3) (fa := fa) (nf := f.slots.length) (fc := fc) (ft := f.times)
        (S0 := fun fs ms x => Below v2.heap.size v2 x ∧ (fs = true → v2.heap.size ≤ ms ∧ x.heap[ms]? = some (.cells #[.slice none 0 0, .int .i64 0] 29 (0, 0))))
        (S1 := fun fs ms r x => Below v2.heap.size v2 x ∧ (fs = true → v2.heap.size ≤ ms ∧ x.heap[ms]? = some (.cells #[.slice none 0 0, .int .i64 0] 29 (0, 0))) ∧ IsInts x r.1 f.slots.reverse ∧ ∀ b o, r.1 = some ⟨b, o, none⟩ → b < x.heap.size ∧ (fs = true → b ≠ ms))
        (S2 := fun fs ms r x => Below v2.heap.size v2 x ∧ x.heap[ms]? = some (.cells #[.slice r.1 f.slots.length r.2, .int .i64 f.times] 29 (0, 0)) ∧ IsInts x r.1 f.slots.reverse)
        cf38 ?h0 ?l2 ?c3 ?l5 ?s0 ?s1 ?c8 ?hQ)
      case h0 => exact ⟨(Below.refl _ _).drew, fun h => by cases h⟩
      case l2 => exact fun fs ms x h => (HKF.out x h.1).1.1
      case c3 =>
        intro fs ms x h
        refine (back38 (c := fc) (HKF.out x h.1).2 HFS.out).mono ?_
        rintro e x2 ⟨rr, rfl, hi, hf, hb⟩
        refine ⟨rr, rfl, h.1.trans (hb.mono h.1.size), fun e => ⟨(h.2 e).1, (hb.block _ (heap_lt (h.2 e).2)).trans (h.2 e).2⟩, hi, fun b o e => ⟨(hf b o e).2, fun e2 => ?_⟩⟩
        have h1 := heap_lt (h.2 e2).2
        have h2 := (hf b o e).1
        omega
      case l5 =>
        rintro fs ms rr x (h | h)
        · exact (HKF.out x h.1).1.2
        · exact (HKF.out x h.1).1.2
      case s0 => exact fun x h => ⟨h.1.alloc h.1.size _, fun _ => ⟨h.1.size, World.alloc_heap_new ..⟩⟩
      case s1 =>
        intro rr x h
        have hb : Below x.heap.size x (x.alloc (.cells #[.slice none 0 0, .int .i64 0] 29)) := (Below.refl _ x).alloc (Nat.le_refl _) _
        exact ⟨h.1.alloc h.1.size _, fun _ => ⟨h.1.size, World.alloc_heap_new ..⟩, h.2.2.1.mono hb, fun b o e => ⟨Nat.lt_of_lt_of_le (h.2.2.2 b o e).1 hb.size, fun _ => by have := (h.2.2.2 b o e).1; omega⟩⟩
      case c8 =>
        intro ms rr x h
        obtain ⟨h1, h2, h3, h4⟩ := h
        have q := (h2 rfl).2
        have hms := (h2 rfl).1
        have q2 := heap_setCell_at (k := 0) q (.slice rr.1 f.slots.length rr.2)
        exact ⟨⟨_, by rw [cell_of_heap q]; rfl⟩, frozen_of_heap q, ⟨_, by rw [cell_of_heap q]; rfl⟩, frozen_of_heap q, (h1.setCell (p := ⟨ms, 0, none⟩) hms _).setCell (p := ⟨ms, 1, none⟩) hms _, heap_setCell_at (k := 1) q2 (.int .i64 f.times), ints_setC (ints_setC h3 fun b o e => (h4 b o e).2 rfl) fun b o e => (h4 b o e).2 rfl⟩
      intro b11 rr v4 h4
      have HS4 := Lib.hid h4
      clear h4
      go_wp2_with fail
      refine HK16.out _ _ ?_
      have HPX : Hid (∀ v, Below v4.heap.size v4 v → (PrsC v b2 p A ∧ IsPrs v p A) ∧ (PrsC v b7 p.turn ⟨rw, cw, r.1, r.2⟩ ∧ IsPrs v p.turn ⟨rw, cw, r.1, r.2⟩) ∧ (v.cell? ⟨b3, 0, none⟩ = some (.slice fa f.slots.length fc) ∧ v.cell? ⟨b3, 1, none⟩ = some (.int .i64 f.times)) ∧ IsInts v fa f.slots ∧ (v.cell? ⟨b11, 0, none⟩ = some (.slice rr.1 f.back.slots.length rr.2) ∧ v.cell? ⟨b11, 1, none⟩ = some (.int .i64 f.times)) ∧ IsInts v rr.1 f.back.slots ∧ IsInts v (some ⟨g, 0, none⟩) p.wanted ∧ Below w.heap.size w v) := fun v hv => by
        have hb : Below v2.heap.size v2 v := HS4.out.1.trans (hv.mono HS4.out.1.size)
        have hT := HT.out.mono hb
        have hp := KP.out v hT.below
        have q := (hv.block _ (heap_lt HS4.out.2.1)).trans HS4.out.2.1
        have e : f.back.slots.length = f.slots.length := List.length_reverse
        rw [e]
        exact ⟨⟨hp.1, hp.2.1⟩, hT.press, hp.2.2.1, hp.2.2.2.1, ⟨by rw [cell_of_heap q]; rfl, by rw [cell_of_heap q]; rfl⟩, HS4.out.2.2.mono hv, HROW.out.mono hb, hp.2.2.2.2⟩
      exact turned_rest HPX HSP (Lib.hid (turn_small HSP.out)) HFS HV rfl
end Go.Proofs.Ytjkhclijmcmdjaa
namespace Go.Proofs.Ytjkhclijmcmdjaa
open Go.RowKit
set_option linter.unusedVariables false
set_option linter.unusedSimpArgs false
set_option maxRecDepth 100000 in
set_option maxHeartbeats 8000000 in
theorem stockTurned_any {p : Prs} {A : PrsA} {w : World} (hP : IsPrs w p A) {f : Fme} {fa : Option Addr} {fc : Nat} (hf : IsInts w fa f.slots) :
    Calls Try.prog 12 #[p.v A, f.v fa fc] w fun e w' => e = .returned (.bool true) ∧ Below w.heap.size w w' := by
  have hX := alloc2 w (p.arr A) (f.arr fa fc) 27 29
  have HW := Lib.hid (And.intro hX (And.intro (hP.mono hX.2.2) (hf.mono hX.2.2)))
  clear hX hP hf
  go_enter Try.func12, Try.ntmps12
  refine wp_seq_hid ?_
  intro K0 HK0
  go_wp2_with fail
  refine HK0.out _ _ ?_
  clear HK0 K0
  refine wp_seq_hid ?_
  intro K1 HK1
  revert HW
  generalize (w.alloc (.cells (p.arr A) 27)).alloc (.cells (f.arr fa fc) 29) = w1
  intro HW
  have KP : Hid (∀ v, Below w1.heap.size w1 v → PrsC v w.heap.size p A ∧ IsPrs v p A ∧ (v.cell? ⟨w.heap.size + 1, 0, none⟩ = some (.slice fa f.slots.length fc) ∧ v.cell? ⟨w.heap.size + 1, 1, none⟩ = some (.int .i64 f.times)) ∧ IsInts v fa f.slots ∧ Below w.heap.size w v) := fun v h => by
    have q := (h.block _ (heap_lt HW.out.1.2.1)).trans HW.out.1.2.1
    exact ⟨prs_cells ((h.block _ (heap_lt HW.out.1.1)).trans HW.out.1.1), HW.out.2.1.mono h, ⟨by rw [cell_of_heap q]; rfl, by rw [cell_of_heap q]; rfl⟩, HW.out.2.2.mono h, HW.out.1.2.2.trans (h.mono HW.out.1.2.2.size)⟩
  have HAL : Hid (Below w1.heap.size w1 (w1.alloc (.cells (f.arr fa fc) 29))) := (Below.refl _ w1).alloc (Nat.le_refl _) _
  have HFM := Lib.hid (fmes_one (f := f) (World.alloc_heap_new w1 (.cells (f.arr fa fc) 29)) ((KP.out w1 (Below.refl _ w1)).2.2.2.1.mono HAL.out))
  obtain ⟨j0, j1⟩ := (KP.out w1 (Below.refl _ w1)).2.2.1
  obtain ⟨k0, k1, k2, k3, k4, k5, k6, k7, k8, k9⟩ := (KP.out w1 (Below.refl _ w1)).1
  go_wp2_with fail
  refine (far13 (l := [f]) (c := 1) (KP.out _ HAL.out).2.1 HFM.out).mono ?_
  rintro e b1 ⟨rfl, hb⟩
  have HB := Lib.hid (HAL.out.trans (hb.mono HAL.out.size))
  clear hb k0 k1 k2 k3 k4 k5 k6 k7 k8 k9 j0 j1 HFM HAL
  cases hfar : farB p [f]
  case true =>
    go_wp2_with fail
    refine (awake14 (w := _)).mono ?_
    rintro e c1 ⟨rfl, hb⟩
    have HX := Lib.hid (HB.out.trans (hb.mono HB.out.size))
    clear hb
    go_wp2_with fail
    go_ret
    exact ⟨rfl, (KP.out _ HX.out).2.2.2.2⟩
  have HS := Lib.hid (far_small hfar)
  clear hfar
  obtain ⟨k0, k1, k2, k3, k4, k5, k6, k7, k8, k9⟩ := (KP.out b1 HB.out).1
  go_wp2_with fail
  refine (heavy22 (r := 4) (n := 15) (KP.out b1 HB.out).2.1 HS.out.1).mono ?_
  rintro e b2 ⟨rfl, hb⟩
  have HX := Lib.hid (HB.out.trans (hb.mono HB.out.size))
  clear hb HB k0 k1 k2 k3 k4 k5 k6 k7 k8 k9
  have HB := HX
  clear HX
  cases hh : heavyB p 4 15
  case true =>
    go_wp2_with fail
    refine (awake14 (w := _)).mono ?_
    rintro e c1 ⟨rfl, hb⟩
    have HX := Lib.hid (HB.out.trans (hb.mono HB.out.size))
    clear hb
    go_wp2_with fail
    go_ret
    exact ⟨rfl, (KP.out _ HX.out).2.2.2.2⟩
  clear hh
  have G := rpress33 (KP.out b2 HB.out).2.1 HS.out.1
  obtain ⟨k0, k1, k2, k3, k4, k5, k6, k7, k8, k9⟩ := (KP.out b2 HB.out).1
  go_wp2_with fail
  refine (G).mono ?_
  rintro e b3 ⟨rfl, hb⟩
  have HX := Lib.hid (HB.out.trans (hb.mono HB.out.size))
  clear hb HB G k0 k1 k2 k3 k4 k5 k6 k7 k8 k9
  have HB := HX
  clear HX
  cases hv : p.valid
  case false =>
    go_wp2_with fail
    refine (awake14 (w := _)).mono ?_
    rintro e c1 ⟨rfl, hb⟩
    have HX := Lib.hid (HB.out.trans (hb.mono HB.out.size))
    clear hb
    go_wp2_with fail
    go_ret
    exact ⟨rfl, (KP.out _ HX.out).2.2.2.2⟩
  have HV := Lib.hid hv
  have HWN := Lib.hid (wanted_of hv)
  clear hv
  go_wp2_with fail
  refine HK1.out _ _ ?_
  clear HK1 K1
  refine wp_seq_hid ?_
  intro K3 HK3
  obtain ⟨k0, k1, k2, k3, k4, k5, k6, k7, k8, k9⟩ := (KP.out b3 HB.out).1
  go_wp2_with fail
  refine HK3.out _ _ ?_
  clear HK3 K3 k0 k1 k2 k3 k4 k5 k6 k7 k8 k9
  refine wp_seq_hid ?_
  intro K4 HK4
  go_wp2_with fail
  refine HK4.out _ _ ?_
  clear HK4 K4
  refine wp_seq_hid ?_
  intro K5 HK5
  obtain ⟨k0, k1, k2, k3, k4, k5, k6, k7, k8, k9⟩ := (KP.out b3 HB.out).1
  have HAX := Lib.hid (World.alloc_heap_new b3 (.cells (p.arr A) 27))
  have HBX : Hid (Below b3.heap.size b3 (b3.alloc (.cells (p.arr A) 27))) := (Below.refl _ b3).alloc (Nat.le_refl _) _
  go_wp2_with fail
  refine HK5.out _ _ ?_
  clear HK5 K5 k0 k1 k2 k3 k4 k5 k6 k7 k8 k9
  revert HAX HBX
  generalize b3.alloc (.cells (p.arr A) 27) = v1
  generalize hb7 : b3.heap.size = b7
  intro HAX HBX
  have HV1 : Hid (Below w1.heap.size w1 v1) := by
    have h1 := HB.out
    have h2 := HBX.out
    rw [← hb7] at h2
    exact h1.trans (h2.mono h1.size)
  have HLO : Hid (w1.heap.size ≤ b7) := by
    have h1 := (HB.out).size
    rw [Hid, ← hb7]
    exact h1
  clear hb7 HBX HB
  have k6 := (KP.out v1 HV1.out).1.c6
  have cf := cf38
  refine wp_seq_hid ?_
  intro K6 HK6
  go_wp2_with fail
  refine (back38 (KP.out v1 HV1.out).2.1.wanted HS.out.1.wanted).mono ?_
  clear k6 cf
  rintro e v2 ⟨⟨rw, cw⟩, rfl, hi, hf, hb⟩
  have q7 := (hb.block _ (heap_lt HAX.out)).trans HAX.out
  have hb7 := heap_lt HAX.out
  have y6 : v2.cell? ⟨b7, 6, none⟩ = some (.slice A.aw p.wanted.length A.cw) := by rw [cell_of_heap q7]; rfl
  have y9 : v2.cell? ⟨b7, 9, none⟩ = some (.slice A.ad p.deals.length A.cd) := by rw [cell_of_heap q7]; rfl
  have f7 : ∀ j, v2.frozen? ⟨b7, j, none⟩ = false := fun j => frozen_of_heap q7
  have HBW := Lib.hid (((HV1.out.trans (hb.mono HV1.out.size)).setCell (p := ⟨b7, 6, none⟩) HLO.out (.slice rw p.wanted.length cw)).setCell (p := ⟨b7, 9, none⟩) HLO.out (.slice none 0 0))
  have q8 := heap_setCell_at (k := 6) q7 (.slice rw p.wanted.length cw)
  have H7 : Hid (((v2.setCell ⟨b7, 6, none⟩ (.slice rw p.wanted.length cw)).setCell ⟨b7, 9, none⟩ (.slice none 0 0)).heap[b7]? = some (.cells (p.half rw cw (.slice none 0 0)) 27 (0, 0))) := heap_setCell_at (k := 9) q8 (.slice none 0 0)
  have HRI : Hid (IsInts ((v2.setCell ⟨b7, 6, none⟩ (.slice rw p.wanted.length cw)).setCell ⟨b7, 9, none⟩ (.slice none 0 0)) rw p.wanted.reverse) := ints_setC (ints_setC hi fun b o e => by have := (hf b o e).1; omega) fun b o e => by have := (hf b o e).1; omega
  have HRL : Hid (∀ b o, rw = some ⟨b, o, none⟩ → b7 < b ∧ b < ((v2.setCell ⟨b7, 6, none⟩ (.slice rw p.wanted.length cw)).setCell ⟨b7, 9, none⟩ (.slice none 0 0)).heap.size) := fun b o e => by
    have h := hf b o e
    rw [World.size_setCell, World.size_setCell]
    omega
  clear hi hf hb q7 q8 hb7
  go_wp2_with fail
  refine HK6.out _ _ ?_
  clear HK6 K6 y6 y9 f7
  have HFS : Hid (f.slots.length ≤ 20) := HS.out.2.2 f (by simp)
  exact turned_mid KP HBW H7 HLO HRL HRI (Lib.hid HS.out.1) HFS HV rfl
end Go.Proofs.Ytjkhclijmcmdjaa
namespace Go.Proofs.Ytjkhclijmcmdjaa
open Go.RowKit Go.WideShapes Go.ChangeShapes
section
variable {H : Type} {enc : TypeId × Value → H} {P : Program}
end
end Go.Proofs.Ytjkhclijmcmdjaa
namespace Go.Proofs.Ytjkhclijmcmdjaa
open Go.ChangeShapes Go.WideShapes Go.ChangeAt Go.Deep Go.RowKit Go.Joins
set_option linter.unusedVariables false
theorem Try.laidOut : laidOutB Try.prog = true := by kernel_rfl
section
variable {H : Type} {enc : TypeId × Value → H} {w : World} {base : Nat} {spare : Nat → Bool} {held : Bool}
end
end Go.Proofs.Ytjkhclijmcmdjaa
