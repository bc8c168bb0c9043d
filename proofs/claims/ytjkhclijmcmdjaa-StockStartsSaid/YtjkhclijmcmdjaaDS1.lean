/- What is enough at first does not hang on how much more than enough there is. What the laws need to know of the cheapest plan: plain law. What is enough at first: plain law. StockStarts' walk. The row's last step where the call leaves a world of which only what lay there before is known. Presses and formes that are handed in, opened. -/
import Derived.Test.YtjkhclijmcmdjaaC15
import Derived.Below
import Derived.ChangeSame
import Derived.ProofKit
import Derived.Test.YtjkhclijmcmdjaaProg
import Derived.Deep.Slices
import Derived.Deep.Fields
import Derived.Lib.SmallJoins
import Derived.Carry
import Derived.OpenShut
namespace Go.Proofs.Ytjkhclijmcmdjaa
open Go.RowKit
set_option linter.unusedVariables false
set_option linter.unusedSimpArgs false
theorem deal_rng {p : Prs} {d : Dl} (hV : p.valid = true) (hd : dealOk p d = true) :
    (d.kind = 0 → (1 ≤ d.many ∧ d.many ≤ 1048576) ∧ 0 ≤ d.pence ∧ d.pence ≤ 1099511627776) ∧ (d.kind = 1 → 0 ≤ d.forme.times ∧ d.forme.times ≤ 1048576) ∧ (d.kind ≠ 0 → d.kind ≠ 1 → 0 ≤ d.pence ∧ d.pence ≤ 1099511627776) := by
  refine ⟨fun h => ?_, fun h => ?_, fun h0 h1 => ?_⟩
  · unfold dealOk at hd; rw [if_pos h] at hd; simpa [inR] using hd
  · have hF : fmeOk p d.forme = true := by unfold dealOk at hd; rw [if_neg (by omega), if_pos h] at hd; exact hd
    exact (fmeR_of hF (v := 0) (by have := wanted_of hV; omega)).times
  · unfold dealOk at hd; rw [if_neg h0, if_neg h1] at hd; split at hd
    · have h2 : ((0 ≤ d.view ∧ d.view ≤ (p.wanted.length : Int) - 1) ∧ (1 ≤ d.many ∧ d.many ≤ 1048576)) ∧ 0 ≤ d.pence ∧ d.pence ≤ 1099511627776 := by simpa [inR, and_assoc] using hd
      exact h2.2
    · cases hd
theorem deal_low {p : Prs} {d : Dl} {s t : Shf} {n : Nat} (hV : p.valid = true) (hd : dealOk p d = true) (hp : ((n + 1 : Nat) : Int) * 2199023255552 ≤ s.paper) (hm : ((n + 1 : Nat) : Int) * 2199023255552 ≤ s.money) (h : p.deal s d = some t) :
    (n : Int) * 2199023255552 ≤ t.paper ∧ (n : Int) * 2199023255552 ≤ t.money := by
  obtain ⟨r0, r1, r2⟩ := deal_rng hV hd
  have hmk := (pence_of hV).1
  unfold Prs.deal at h
  by_cases h0 : d.kind = 0
  · have := r0 h0
    rw [if_pos h0] at h
    split at h
    · cases h
    · cases h; simp only; omega
  · by_cases h1 : d.kind = 1
    · have := r1 h1
      rw [if_neg h0, if_pos h1] at h
      split at h
      · cases h
      · cases h; simp only; omega
    · have := r2 h0 h1
      rw [if_neg h0, if_neg h1] at h
      split at h
      · cases h
      · cases h; simp only; omega
theorem deals_len {p : Prs} (hV : p.valid = true) : p.deals.length ≤ 20 := by
  unfold Prs.valid Prs.sizeOk at hV
  simp only [Bool.and_eq_true, decide_eq_true_eq] at hV
  omega
end Go.Proofs.Ytjkhclijmcmdjaa
namespace Go.Proofs.Ytjkhclijmcmdjaa
set_option linter.unusedVariables false
set_option linter.unusedSimpArgs false
theorem open_ok {p : Prs} (hV : p.valid = true) {b : Bool} : p.openE b = if b then 0 else 2 := by
  unfold Prs.openE
  cases b <;> simp [hV]
end Go.Proofs.Ytjkhclijmcmdjaa
namespace Go.Proofs.Ytjkhclijmcmdjaa
set_option linter.unusedVariables false
set_option linter.unusedSimpArgs false
def Shf.less (s : Shf) (x y : Int) : Shf := ⟨s.paper - x, s.money - y, s.cards⟩
/-- A deal with less at first: it can be done just if with enough it can and neither sheets nor pence are below 0 then. -/
theorem deal_less {p : Prs} {d : Dl} {t : Shf} (hV : p.valid = true) (hd : dealOk p d = true) (hp : 2199023255552 ≤ t.paper) (hm : 2199023255552 ≤ t.money) {x y : Int} (h0 : 0 ≤ t.paper - x) (h1 : 0 ≤ t.money - y) :
    (p.deal t d = none → p.deal (t.less x y) d = none) ∧ ∀ t', p.deal t d = some t' → p.deal (t.less x y) d = if 0 ≤ t'.paper - x ∧ 0 ≤ t'.money - y then some (t'.less x y) else none := by
  obtain ⟨r0, r1, r2⟩ := deal_rng hV hd
  have hmk := (pence_of hV).1
  have em : (t.less x y).money = t.money - y := rfl
  have ep : (t.less x y).paper = t.paper - x := rfl
  unfold Prs.deal
  by_cases k0 : d.kind = 0
  · have := r0 k0
    rw [if_pos k0, if_pos k0, if_neg (by omega)]
    refine ⟨(fun h => by cases h), fun t' h => ?_⟩
    cases h
    by_cases hc : (t.less x y).money < d.pence
    · rw [if_pos hc, if_neg (by show ¬ (0 ≤ t.paper + d.many - x ∧ 0 ≤ t.money - d.pence - y); omega)]
    · rw [if_neg hc, if_pos (by show 0 ≤ t.paper + d.many - x ∧ 0 ≤ t.money - d.pence - y; omega)]
      have e1 : t.paper - x + d.many = t.paper + d.many - x := by omega
      have e2 : t.money - y - d.pence = t.money - d.pence - y := by omega
      show some (Shf.mk (t.paper - x + d.many) (t.money - y - d.pence) t.cards) = _
      rw [e1, e2]
      rfl
  · by_cases k1 : d.kind = 1
    · have := r1 k1
      rw [if_neg k0, if_pos k1, if_neg k0, if_pos k1, if_neg (by omega)]
      refine ⟨(fun h => by cases h), fun t' h => ?_⟩
      cases h
      by_cases hc : (t.less x y).money < p.make ∨ (t.less x y).paper < d.forme.times
      · rw [if_pos hc, if_neg (by show ¬ (0 ≤ t.paper - d.forme.times - x ∧ 0 ≤ t.money - p.make - y); omega)]
      · rw [if_neg hc, if_pos (by show 0 ≤ t.paper - d.forme.times - x ∧ 0 ≤ t.money - p.make - y; omega)]
        have e1 : t.paper - x - d.forme.times = t.paper - d.forme.times - x := by omega
        have e2 : t.money - y - p.make = t.money - p.make - y := by omega
        show some (Shf.mk (t.paper - x - d.forme.times) (t.money - y - p.make) _) = _
        rw [e1, e2]
        rfl
    · have := r2 k0 k1
      rw [if_neg k0, if_neg k1, if_neg k0, if_neg k1]
      by_cases hc : (gs t.cards d.view.toNat).lo < d.many
      · rw [if_pos hc, if_pos (show (gs (t.less x y).cards d.view.toNat).lo < d.many from hc)]
        exact ⟨fun _ => rfl, fun t' h => by cases h⟩
      · rw [if_neg hc, if_neg (show ¬ (gs (t.less x y).cards d.view.toNat).lo < d.many from hc)]
        refine ⟨(fun h => by cases h), fun t' h => ?_⟩
        cases h
        rw [if_pos (by show 0 ≤ t.paper - x ∧ 0 ≤ t.money + d.pence - y; omega)]
        have e2 : t.money - y + d.pence = t.money + d.pence - y := by omega
        show some (Shf.mk (t.paper - x) (t.money - y + d.pence) _) = _
        rw [e2]
        rfl
theorem runF_true {p : Prs} : ∀ (r : List Dl) (s : Shf) (k : Nat), ((p.runF s r k).2.2 = true → (p.runF s r k).2.1 = k + r.length) ∧ ((p.runF s r k).2.2 = false → (p.runF s r k).2.1 < k + r.length)
  | [], s, k => ⟨fun _ => rfl, fun h => by cases h⟩
  | d :: r, s, k => by
    cases h : p.deal s d with
    | none =>
      rw [runF_none h]
      exact ⟨(fun h => by cases h), fun _ => by simp⟩
    | some t =>
      rw [runF_some h]
      have := runF_true (p := p) r t (k + 1)
      rw [List.length_cons]
      exact ⟨fun h => by rw [this.1 h]; omega, fun h => by have := this.2 h; omega⟩
theorem lowF_le {p : Prs} : ∀ (r : List Dl) (t : Shf) (a b : Int) (z : Int × Int), p.lowF t r a b = some z → z.1 ≤ a ∧ z.2 ≤ b
  | [], t, a, b, z, h => by cases h; exact ⟨Int.le_refl _, Int.le_refl _⟩
  | d :: r, t, a, b, z, h => by
    unfold Prs.lowF at h
    split at h
    · have := lowF_le r _ _ _ z h
      omega
    · cases h
set_option maxRecDepth 10000 in
theorem run_low {p : Prs} (hV : p.valid = true) {x y : Int} : ∀ (r : List Dl) (t : Shf) (k : Nat) (a b : Int), (∀ d ∈ r, dealOk p d = true) → (r.length : Int) * 2199023255552 ≤ t.paper → (r.length : Int) * 2199023255552 ≤ t.money →
    0 ≤ t.paper - x → 0 ≤ t.money - y → x ≤ a → y ≤ b →
    (p.lowF t r a b = none → (p.runF (t.less x y) r k).2.2 = false) ∧ ∀ z, p.lowF t r a b = some z → ((p.runF (t.less x y) r k).2.2 = true ↔ x ≤ z.1 ∧ y ≤ z.2) := by
  intro r
  induction r with
  | nil =>
    intro t k a b _ _ _ _ _ ha hb
    refine ⟨fun h => absurd (show some (a, b) = none from h) (by simp), fun z h => ?_⟩
    obtain rfl : (a, b) = z := Option.some.inj (show some (a, b) = some z from h)
    exact ⟨fun _ => ⟨ha, hb⟩, fun _ => rfl⟩
  | cons d r ih =>
    intro t k a b hok hp hm h0 h1 ha hb
    have hd := hok d (by simp)
    have hl : ((d :: r).length : Int) = (r.length : Int) + 1 := by simp
    rw [hl] at hp hm
    have g1 : (2199023255552 : Int) ≤ t.paper := by
      have : 0 ≤ (r.length : Int) * 2199023255552 := Int.mul_nonneg (by omega) (by omega)
      omega
    have g2 : (2199023255552 : Int) ≤ t.money := by
      have : 0 ≤ (r.length : Int) * 2199023255552 := Int.mul_nonneg (by omega) (by omega)
      omega
    obtain ⟨d1, d2⟩ := deal_less hV hd g1 g2 h0 h1
    cases hdl : p.deal t d with
    | none =>
      rw [lowF_none hdl, runF_none (d1 hdl)]
      exact ⟨fun _ => rfl, fun z h => by cases h⟩
    | some t' =>
      rw [lowF_some hdl]
      have hlw := deal_low (n := r.length) hV hd (by rw [show ((r.length + 1 : Nat) : Int) = (r.length : Int) + 1 by omega]; exact hp) (by rw [show ((r.length + 1 : Nat) : Int) = (r.length : Int) + 1 by omega]; exact hm) hdl
      have e := d2 t' hdl
      by_cases hc : 0 ≤ t'.paper - x ∧ 0 ≤ t'.money - y
      · rw [if_pos hc] at e
        rw [runF_some e]
        exact ih t' (k + 1) _ _ (fun d hd => hok d (by simp [hd])) hlw.1 hlw.2 hc.1 hc.2 (by omega) (by omega)
      · rw [if_neg hc] at e
        rw [runF_none e]
        refine ⟨fun _ => rfl, fun z h => ?_⟩
        have := lowF_le r t' _ _ z h
        simp
        omega
def Prs.have_ (p : Prs) (u v : Int) : Prs := { p with paper := u, money := v }
theorem have_valid {p : Prs} (hV : p.valid = true) {u v : Int} (hu : 0 ≤ u ∧ u ≤ 1099511627776) (hv : 0 ≤ v ∧ v ≤ 1099511627776) : (p.have_ u v).valid = true := by
  have e : ∀ d, dealOk (p.have_ u v) d = dealOk p d := fun d => rfl
  unfold Prs.valid at hV ⊢
  simp only [Bool.and_eq_true] at hV ⊢
  refine ⟨⟨⟨hV.1.1.1, hV.1.1.2⟩, ?_⟩, hV.2⟩
  have h := hV.1.2
  unfold Prs.penceOk at h ⊢
  simp only [Bool.and_eq_true] at h ⊢
  exact ⟨⟨⟨h.1.1.1, h.1.1.2⟩, by simp [inR, Prs.have_, hu]⟩, by simp [inR, Prs.have_, hv]⟩
theorem have_run {p : Prs} {u v : Int} : ∀ (r : List Dl) (s : Shf) (k : Nat), (p.have_ u v).runF s r k = p.runF s r k
  | [], s, k => rfl
  | d :: r, s, k => by
    have e : (p.have_ u v).deal s d = p.deal s d := rfl
    cases h : p.deal s d with
    | none => rw [runF_none h, runF_none (by rw [e]; exact h)]
    | some t => rw [runF_some h, runF_some (by rw [e]; exact h), have_run r t]
theorem deals_ok {p : Prs} (hV : p.valid = true) : ∀ d ∈ p.deals, dealOk p d = true := by
  unfold Prs.valid at hV
  simp only [Bool.and_eq_true, List.all_eq_true] at hV
  exact hV.2
/-- What is enough at first, and what happens with so much. -/
theorem starts_law {p : Prs} (hV : p.valid = true) : (startsE p = ((0, 0), 10) ∧ ∃ n : Nat, playE p = ((n : Int), 10) ∧ n < p.deals.length) ∨
    ∃ a b : Int, startsE p = ((a, b), 0) ∧ 0 ≤ a ∧ 0 ≤ b ∧ ∀ u v : Int, 0 ≤ u ∧ u ≤ 1099511627776 → 0 ≤ v ∧ v ≤ 1099511627776 → ∃ n : Int, playE (p.have_ u v) = (n, if a ≤ u ∧ b ≤ v then 0 else 10) := by
  have hlen := deals_len hV
  have hM : (p.deals.length : Int) * 2199023255552 ≤ 1125899906842624 := by omega
  have hpn := pence_of hV
  have key : ∀ u v : Int, 0 ≤ u → 0 ≤ v → ((p.lows 1125899906842624 = none → (p.runF ⟨u, v, List.replicate p.wanted.length ⟨0, 0⟩⟩ p.deals 0).2.2 = false) ∧
      ∀ z, p.lows 1125899906842624 = some z → ((p.runF ⟨u, v, List.replicate p.wanted.length ⟨0, 0⟩⟩ p.deals 0).2.2 = true ↔ 1125899906842624 - u ≤ z.1 ∧ 1125899906842624 - v ≤ z.2)) := fun u v hu hv => by
    have h := run_low hV (x := 1125899906842624 - u) (y := 1125899906842624 - v) p.deals ⟨1125899906842624, 1125899906842624, List.replicate p.wanted.length ⟨0, 0⟩⟩ 0 1125899906842624 1125899906842624 (deals_ok hV) hM hM (by simp only; omega) (by simp only; omega) (by omega) (by omega)
    have e : Shf.less ⟨1125899906842624, 1125899906842624, List.replicate p.wanted.length ⟨0, 0⟩⟩ (1125899906842624 - u) (1125899906842624 - v) = ⟨u, v, List.replicate p.wanted.length ⟨0, 0⟩⟩ := by
      unfold Shf.less
      congr 1 <;> simp only <;> omega
    rw [e] at h
    exact h
  have play : ∀ u v : Int, 0 ≤ u ∧ u ≤ 1099511627776 → 0 ≤ v ∧ v ≤ 1099511627776 → playE (p.have_ u v) = (((p.runF ⟨u, v, List.replicate p.wanted.length ⟨0, 0⟩⟩ p.deals 0).2.1 : Int), if (p.runF ⟨u, v, List.replicate p.wanted.length ⟨0, 0⟩⟩ p.deals 0).2.2 then 0 else 10) := fun u v hu hv => by
    unfold playE
    rw [open_ok (have_valid hV hu hv)]
    have e : (p.have_ u v).runF (p.have_ u v).first (p.have_ u v).deals 0 = p.runF ⟨u, v, List.replicate p.wanted.length ⟨0, 0⟩⟩ p.deals 0 := have_run _ _ _
    simp only [e]
    rfl
  have hself : p.have_ p.paper p.money = p := rfl
  have hpm : (0 ≤ p.paper ∧ p.paper ≤ 1099511627776) ∧ 0 ≤ p.money ∧ p.money ≤ 1099511627776 := by
    unfold Prs.valid at hV
    simp only [Bool.and_eq_true, Prs.penceOk, inR, decide_eq_true_eq] at hV
    omega
  cases hl : p.lows 1125899906842624 with
  | none =>
    left
    refine ⟨?_, ?_⟩
    · unfold startsE
      rw [open_ok hV]
      simp [hl]
    · have h1 := play p.paper p.money hpm.1 hpm.2
      rw [hself] at h1
      have h2 := (key p.paper p.money hpm.1.1 hpm.2.1).1 hl
      rw [h2] at h1
      have h3 := (runF_true p.deals ⟨p.paper, p.money, List.replicate p.wanted.length ⟨0, 0⟩⟩ 0).2 h2
      exact ⟨_, h1, by omega⟩
  | some z =>
    right
    have hz := lowF_le p.deals _ _ _ z hl
    refine ⟨1125899906842624 - z.1, 1125899906842624 - z.2, ?_, by omega, by omega, fun u v hu hv => ?_⟩
    · unfold startsE
      rw [open_ok hV]
      simp [hl]
    · refine ⟨((p.runF ⟨u, v, List.replicate p.wanted.length ⟨0, 0⟩⟩ p.deals 0).2.1 : Int), (play u v hu hv).trans ?_⟩
      have h2 := (key u v hu.1 hv.1).2 z hl
      congr 1
      by_cases hc : 1125899906842624 - u ≤ z.1 ∧ 1125899906842624 - v ≤ z.2
      · rw [if_pos (h2.2 hc), if_pos (by omega)]
      · have h3 : (p.runF ⟨u, v, List.replicate p.wanted.length ⟨0, 0⟩⟩ p.deals 0).2.2 = false := by
          cases he : (p.runF ⟨u, v, List.replicate p.wanted.length ⟨0, 0⟩⟩ p.deals 0).2.2 with
          | false => rfl
          | true => exact absurd (h2.1 he) hc
        rw [h3, if_neg (by simp), if_neg (by omega)]
end Go.Proofs.Ytjkhclijmcmdjaa
namespace Go.Proofs.Ytjkhclijmcmdjaa
open Go.RowKit
set_option linter.unusedVariables false
set_option linter.unusedSimpArgs false
theorem cf37 (args : Array Value) (w : World) : (callFunc 37 args).run Try.prog w = .ok (.enter 37 args) w := by simp [callFunc, Try.func37, Try.f37, go_sem]
set_option maxRecDepth 100000 in
set_option maxHeartbeats 4000000 in
theorem can37 {p : Prs} {A : PrsA} {b : Nat} {u v n e : Int} {r : Bool} {w : World} (hq : w.heap[b]? = some (.cells (p.arr A) 27 (0, 0))) (hP : IsPrs w p A) (hS : p.Small) (he : playE (p.have_ u v) = (n, e)) (hr : (e == 0) = r) :
    Calls Try.prog 37 #[.int .i64 u, .int .i64 v, .pointer (some ⟨b, 0, none⟩)] w fun en w' => en = .returned (.bool r) ∧ Below w.heap.size w w' := by
  have HS : Hid (p.have_ u v).Small := ⟨hS.wanted, hS.deals, hS.slots⟩
  have HE := Lib.hid he
  have HR := Lib.hid hr
  have hb0 : Below w.heap.size w (w.alloc (.cells (p.arr A) 27)) := (Below.refl _ w).alloc (Nat.le_refl _) _
  have HX := Lib.hid (And.intro (World.alloc_heap_new w (.cells (p.arr A) 27)) (And.intro hb0 (hP.mono hb0)))
  obtain ⟨k0, k1, k2, k3, k4, k5, k6, k7, k8, k9⟩ := prs_cells hq
  have HW := Lib.hid hP
  clear he hr hq hb0 hP hS
  go_enter Try.func37, Try.ntmps37
  refine wp_seq_hid ?_
  intro K0 HK0
  go_wp2_with fail
  refine HK0.out _ _ ?_
  clear HK0 K0
  refine wp_seq_hid ?_
  intro K1 HK1
  go_wp2_with fail
  refine HK1.out _ _ ?_
  clear HK1 K1 k0 k1 k2 k3 k4 k5 k6 k7 k8 k9
  revert HX
  generalize w.alloc (.cells (p.arr A) 27) = w1
  generalize hbx : w.heap.size = bx
  intro HX
  have HB := Lib.hid hbx
  clear hbx
  have y7 : w1.cell? ⟨bx, 7, none⟩ = some (.int .i64 p.paper) := by rw [cell_of_heap HX.out.1]; rfl
  have y8 : w1.cell? ⟨bx, 8, none⟩ = some (.int .i64 p.money) := by rw [cell_of_heap HX.out.1]; rfl
  have f0 : ∀ k, w1.frozen? ⟨bx, k, none⟩ = false := fun k => frozen_of_heap HX.out.1
  have h4 : ((w1.setCell ⟨bx, 7, none⟩ (.int .i64 u)).setCell ⟨bx, 8, none⟩ (.int .i64 v)).heap[bx]? = some (.cells ((p.have_ u v).arr A) 27 (0, 0)) := (heap_setCell_at (k := 8) (heap_setCell_at (k := 7) HX.out.1 (.int .i64 u)) (.int .i64 v))
  have h5 : Below w.heap.size w ((w1.setCell ⟨bx, 7, none⟩ (.int .i64 u)).setCell ⟨bx, 8, none⟩ (.int .i64 v)) := by
    rw [HB.out]
    exact (HX.out.2.1.setCell (p := ⟨bx, _, none⟩) (by show bx ≤ bx; omega) _).setCell (p := ⟨bx, _, none⟩) (by show bx ≤ bx; omega) _
  have h6 : IsPrs ((w1.setCell ⟨bx, 7, none⟩ (.int .i64 u)).setCell ⟨bx, 8, none⟩ (.int .i64 v)) (p.have_ u v) A := ⟨(HW.out.mono h5).wanted, (HW.out.mono h5).deals⟩
  have H := Lib.hid (And.intro h4 (And.intro h5 h6))
  clear h4 h5 h6
  refine wp_seq_hid ?_
  intro K2 HK2
  go_wp2_with fail
  refine HK2.out _ _ ?_
  clear HK2 K2 y7 y8 f0
  revert H
  generalize (w1.setCell ⟨bx, 7, none⟩ (.int .i64 u)).setCell ⟨bx, 8, none⟩ (.int .i64 v) = w2
  intro H
  obtain ⟨k0, k1, k2, k3, k4, k5, k6, k7, k8, k9⟩ := prs_cells H.out.1
  have G := play26 (p := p.have_ u v) (A := A) H.out.2.2 HS.out
  rw [HE.out] at G
  go_wp2_with fail
  refine G.mono ?_
  rintro en w3 ⟨rfl, hb⟩
  have HF := Lib.hid (H.out.2.1.trans (hb.mono H.out.2.1.size))
  clear hb G k0 k1 k2 k3 k4 k5 k6 k7 k8 k9
  have hr := HR.out
  go_wp2_with fail
  go_ret
  exact ⟨rfl, by rw [← HB.out]; exact HF.out⟩
set_option maxRecDepth 100000 in
set_option maxHeartbeats 8000000 in
theorem stockStarts_any {p : Prs} {A : PrsA} {w : World} (hP : IsPrs w p A) :
    Calls Try.prog 10 #[p.v A] w fun e w' => e = .returned (.bool true) ∧ Below w.heap.size w w' := by
  have hb0 : Below w.heap.size w (w.alloc (.cells (p.arr A) 27)) := (Below.refl _ w).alloc (Nat.le_refl _) _
  have q0 := World.alloc_heap_new w (.cells (p.arr A) 27)
  have HW := Lib.hid (And.intro hb0 (And.intro q0 (hP.mono hb0)))
  clear hb0 q0 hP
  have hcf := cf37
  have hmf : ∀ (fn : Fn) (first cap : Array Value) (w : World), (Instr.makeFunc fn first cap).run Try.prog w = .ok (.func fn first cap) w := fun _ _ _ _ => rfl
  go_enter Try.func10, Try.ntmps10
  refine wp_seq_hid ?_
  intro K0 HK0
  go_wp2_with fail
  refine HK0.out _ _ ?_
  clear HK0 K0
  refine wp_seq_hid ?_
  intro K1 HK1
  revert HW
  generalize w.alloc (.cells (p.arr A) 27) = w1
  intro HW
  have KP : Hid (∀ v, Below w1.heap.size w1 v → PrsC v w.heap.size p A ∧ IsPrs v p A ∧ Below w.heap.size w v) := fun v h => ⟨prs_cells ((h.block _ (heap_lt HW.out.2.1)).trans HW.out.2.1), HW.out.2.2.mono h, HW.out.1.trans (h.mono HW.out.1.size)⟩
  have KQ : Hid (∀ v, Below w1.heap.size w1 v → v.heap[w.heap.size]? = some (.cells (p.arr A) 27 (0, 0))) := fun v h => (h.block _ (heap_lt HW.out.2.1)).trans HW.out.2.1
  have HB := Lib.hid (Below.refl w1.heap.size w1)
  obtain ⟨k0, k1, k2, k3, k4, k5, k6, k7, k8, k9⟩ := (KP.out w1 HB.out).1
  go_wp2_with fail
  refine (far13 (l := []) (a := none) (c := 0) (KP.out w1 HB.out).2.1 (fmes_nil _)).mono ?_
  rintro e b1 ⟨rfl, hb⟩
  have HX := Lib.hid (HB.out.trans (hb.mono HB.out.size))
  clear hb HB k0 k1 k2 k3 k4 k5 k6 k7 k8 k9
  have HB := HX
  clear HX
  cases hf : farB p []
  case true =>
    go_wp2_with fail
    refine (awake14 (w := _)).mono ?_
    rintro e c1 ⟨rfl, hb⟩
    have HX := Lib.hid (HB.out.trans (hb.mono HB.out.size))
    clear hb
    go_wp2_with fail
    go_ret
    exact ⟨rfl, (KP.out _ HX.out).2.2⟩
  have HS := Lib.hid (far_small hf).1
  clear hf
  have G := rpress33 (KP.out b1 HB.out).2.1 HS.out
  obtain ⟨k0, k1, k2, k3, k4, k5, k6, k7, k8, k9⟩ := (KP.out b1 HB.out).1
  go_wp2_with fail
  refine (G).mono ?_
  rintro e b2 ⟨rfl, hb⟩
  have HX := Lib.hid (HB.out.trans (hb.mono HB.out.size))
  clear hb HB G k0 k1 k2 k3 k4 k5 k6 k7 k8 k9
  have HB := HX
  clear HX
  cases hv : p.valid
  case false =>
    go_wp2_with fail
    refine (awake14 (w := _)).mono ?_
    rintro e c1 ⟨rfl, hb⟩
    have HX := Lib.hid (HB.out.trans (hb.mono HB.out.size))
    clear hb
    go_wp2_with fail
    go_ret
    exact ⟨rfl, (KP.out _ HX.out).2.2⟩
  go_wp2_with fail
  refine HK1.out _ _ ?_
  clear HK1 K1
  have hpm : (0 ≤ p.paper ∧ p.paper ≤ 1099511627776) ∧ 0 ≤ p.money ∧ p.money ≤ 1099511627776 := by
    have h := hv
    unfold Prs.valid at h
    simp only [Bool.and_eq_true, Prs.penceOk, inR, decide_eq_true_eq] at h
    omega
  have HPM := Lib.hid hpm
  clear hpm
  have C30 : Hid (∀ a b z : Int, startsE p = ((a, b), z) → ∀ v, Below w1.heap.size w1 v → Calls Try.prog 30 #[p.v A] v fun e w' => e = .returned (.tuple #[.int .i64 a, .int .i64 b, .int .i64 z]) ∧ Below v.heap.size v w') := fun a b z he v h => by
    have G := starts30 (KP.out v h).2.1 HS.out
    rw [he] at G
    exact G
  have C26 : Hid (∀ m z : Int, playE p = (m, z) → ∀ v, Below w1.heap.size w1 v → Calls Try.prog 26 #[p.v A] v fun e w' => e = .returned (.tuple #[.int .i64 m, .int .i64 z]) ∧ Below v.heap.size v w') := fun m z he v h => by
    have G := play26 (KP.out v h).2.1 HS.out
    rw [he] at G
    exact G
  have HDL : Hid (p.deals.length ≤ 60) := HS.out.deals
  rcases starts_law hv with ⟨hE, n, hp, hn⟩ | ⟨a, b, hE, ha, hb0, hcan⟩
  · have HN := Lib.hid hn
    clear hn
    refine wp_seq_hid ?_
    intro K2 HK2
    obtain ⟨k0, k1, k2, k3, k4, k5, k6, k7, k8, k9⟩ := (KP.out b2 HB.out).1
    go_wp2_with fail
    refine (C30.out _ _ _ hE _ HB.out).mono ?_
    rintro e b3 ⟨rfl, hb⟩
    have HX := Lib.hid (HB.out.trans (hb.mono HB.out.size))
    clear hb HB hE k0 k1 k2 k3 k4 k5 k6 k7 k8 k9
    have HB := HX
    clear HX
    go_wp2_with fail
    refine HK2.out _ _ ?_
    clear HK2 K2
    refine wp_seq_hid ?_
    intro K3 HK3
    obtain ⟨k0, k1, k2, k3, k4, k5, k6, k7, k8, k9⟩ := (KP.out b3 HB.out).1
    go_wp2_with fail
    refine (C26.out _ _ hp _ HB.out).mono ?_
    rintro e b4 ⟨rfl, hb⟩
    have HX := Lib.hid (HB.out.trans (hb.mono HB.out.size))
    clear hb HB hp k0 k1 k2 k3 k4 k5 k6 k7 k8 k9
    have HB := HX
    clear HX
    go_wp2_with fail
    refine HK3.out _ _ ?_
    clear HK3 K3
    obtain ⟨k0, k1, k2, k3, k4, k5, k6, k7, k8, k9⟩ := (KP.out b4 HB.out).1
    have g1 : decide (n < p.deals.length) = true := by simpa using HN.out
    clear hv
    go_wp2_with fail
    refine (awake14 (w := _)).mono ?_
    rintro e c1 ⟨rfl, hb⟩
    have HX := Lib.hid (HB.out.trans (hb.mono HB.out.size))
    clear hb
    go_wp2_with fail
    go_ret
    exact ⟨rfl, (KP.out _ HX.out).2.2⟩
  · obtain ⟨m, hp⟩ := hcan p.paper p.money HPM.out.1 HPM.out.2
    have hself : p.have_ p.paper p.money = p := rfl
    rw [hself] at hp
    generalize hz : (if a ≤ p.paper ∧ b ≤ p.money then (0 : Int) else 10) = z at hp
    have HZ := Lib.hid hz
    have HCAN := Lib.hid hcan
    have HAB := Lib.hid (And.intro ha hb0)
    clear hself hz hcan
    refine wp_seq_hid ?_
    intro K2 HK2
    obtain ⟨k0, k1, k2, k3, k4, k5, k6, k7, k8, k9⟩ := (KP.out b2 HB.out).1
    go_wp2_with fail
    refine (C30.out _ _ _ hE _ HB.out).mono ?_
    rintro e b5 ⟨rfl, hb⟩
    have HX := Lib.hid (HB.out.trans (hb.mono HB.out.size))
    clear hb HB hE k0 k1 k2 k3 k4 k5 k6 k7 k8 k9
    have HB := HX
    clear HX
    go_wp2_with fail
    refine HK2.out _ _ ?_
    clear HK2 K2
    refine wp_seq_hid ?_
    intro K3 HK3
    obtain ⟨k0, k1, k2, k3, k4, k5, k6, k7, k8, k9⟩ := (KP.out b5 HB.out).1
    go_wp2_with fail
    refine (C26.out _ _ hp _ HB.out).mono ?_
    rintro e b6 ⟨rfl, hb⟩
    have HX := Lib.hid (HB.out.trans (hb.mono HB.out.size))
    clear hb HB hp k0 k1 k2 k3 k4 k5 k6 k7 k8 k9
    have HB := HX
    clear HX
    go_wp2_with fail
    refine HK3.out _ _ ?_
    clear HK3 K3
    clear hv
    refine wp_seq_hid ?_
    intro K4 HK4
    go_wp2_with fail
    refine HK4.out _ _ ?_
    clear HK4 K4
    refine wp_seq_hid ?_
    intro K5 HK5
    obtain ⟨k0, k1, k2, k3, k4, k5, k6, k7, k8, k9⟩ := (KP.out b6 HB.out).1
    have g0 : decide (a < 0) = false := by simpa using ha
    have g1 : decide (b < 0) = false := by simpa using hb0
    have hgo : Hid (∀ Q : Prop, Q → Q) := fun Q h => h
    clear hgo ha hb0
    have step : ∀ K : Act → World → Prop, True := fun _ => trivial
    clear step
    by_cases c1 : a ≤ p.paper
    · by_cases c2 : b ≤ p.money
      · have g2 : decide (p.paper ≥ a) = true := by simpa using c1
        have g3 : decide (p.money ≥ b) = true := by simpa using c2
        obtain rfl : z = 0 := by rw [← HZ.out]; simp [c1, c2]
        clear HZ c1 c2
        go_wp2_with fail
        refine HK5.out _ _ ?_
        clear g0 g1 g2 g3
        skip
        refine wp_seq_hid ?_
        intro K6 HK6
        by_cases e1 : 1099511627776 < a
        · have h1 : decide (a > 1099511627776) = true := by simpa using e1
          go_wp2_with fail
          refine (awake14 (w := _)).mono ?_
          rintro e c1 ⟨rfl, hb⟩
          have HX := Lib.hid (HB.out.trans (hb.mono HB.out.size))
          clear hb
          go_wp2_with fail
          go_ret
          exact ⟨rfl, (KP.out _ HX.out).2.2⟩
        have h1 : decide (a > 1099511627776) = false := by simpa using e1
        by_cases e2 : 1099511627776 < b
        · have h2 : decide (b > 1099511627776) = true := by simpa using e2
          go_wp2_with fail
          refine (awake14 (w := _)).mono ?_
          rintro e c1 ⟨rfl, hb⟩
          have HX := Lib.hid (HB.out.trans (hb.mono HB.out.size))
          clear hb
          go_wp2_with fail
          go_ret
          exact ⟨rfl, (KP.out _ HX.out).2.2⟩
        have h2 : decide (b > 1099511627776) = false := by simpa using e2
        go_wp2_with fail
        refine HK6.out _ _ ?_
        clear HK6 K6
        clear h1 h2
        refine wp_seq_hid ?_
        intro K7 HK7
        go_wp2_with fail
        refine HK7.out _ _ ?_
        clear HK7 K7
        have HA := Lib.hid (show a ≤ 1099511627776 ∧ b ≤ 1099511627776 by omega)
        clear e1 e2
        obtain ⟨n1, p1⟩ := HCAN.out a b ⟨HAB.out.1, HA.out.1⟩ ⟨HAB.out.2, HA.out.2⟩
        rw [if_pos ⟨Int.le_refl a, Int.le_refl b⟩] at p1
        have P1 := Lib.hid p1
        clear p1
        by_cases a0 : a = 0
        · have m1 : (a == 0) = true := by simp [a0]
          clear a0
          by_cases b0 : b = 0
          · have m2 : (b == 0) = true := by simp [b0]
            clear b0
            go_wp2_with fail
            refine (can37 (KQ.out _ HB.out) (KP.out b6 HB.out).2.1 HS.out P1.out (r := true) rfl).mono ?_
            rintro e b7 ⟨rfl, hb⟩
            have HX := Lib.hid (HB.out.trans (hb.mono HB.out.size))
            clear hb HB
            have HB := HX
            clear HX
            go_wp2_with fail
            refine (awake14 (w := _)).mono ?_
            rintro e c1 ⟨rfl, hb⟩
            have HX := Lib.hid (HB.out.trans (hb.mono HB.out.size))
            clear hb
            go_wp2_with fail
            go_ret
            exact ⟨rfl, (KP.out _ HX.out).2.2⟩
          · have m2 : (b == 0) = false := by simp [b0]
            have w2x : IntKind.i64.wrap (b - 1) = b - 1 := IntWalk.i64_in _ (by have := HAB.out.2; have := HA.out.2; omega)
            obtain ⟨n3, p3⟩ := HCAN.out a (b - 1) ⟨HAB.out.1, HA.out.1⟩ ⟨by have := HAB.out.2; omega, by have := HA.out.2; omega⟩
            rw [if_neg (by omega)] at p3
            have P3 := Lib.hid p3
            clear p3
            clear b0
            go_wp2_with fail
            refine (can37 (KQ.out _ HB.out) (KP.out b6 HB.out).2.1 HS.out P1.out (r := true) rfl).mono ?_
            rintro e b8 ⟨rfl, hb⟩
            have HX := Lib.hid (HB.out.trans (hb.mono HB.out.size))
            clear hb HB
            have HB := HX
            clear HX
            go_wp2_with fail
            refine (can37 (KQ.out _ HB.out) (KP.out b8 HB.out).2.1 HS.out P3.out (r := false) rfl).mono ?_
            rintro e b9 ⟨rfl, hb⟩
            have HX := Lib.hid (HB.out.trans (hb.mono HB.out.size))
            clear hb HB
            have HB := HX
            clear HX
            go_wp2_with fail
            refine (awake14 (w := _)).mono ?_
            rintro e c1 ⟨rfl, hb⟩
            have HX := Lib.hid (HB.out.trans (hb.mono HB.out.size))
            clear hb
            go_wp2_with fail
            go_ret
            exact ⟨rfl, (KP.out _ HX.out).2.2⟩
        · have m1 : (a == 0) = false := by simp [a0]
          have w1x : IntKind.i64.wrap (a - 1) = a - 1 := IntWalk.i64_in _ (by have := HAB.out.1; have := HA.out.1; omega)
          obtain ⟨n2, p2⟩ := HCAN.out (a - 1) b ⟨by have := HAB.out.1; omega, by have := HA.out.1; omega⟩ ⟨HAB.out.2, HA.out.2⟩
          rw [if_neg (by omega)] at p2
          have P2 := Lib.hid p2
          clear p2
          clear a0
          by_cases b0 : b = 0
          · have m2 : (b == 0) = true := by simp [b0]
            clear b0
            go_wp2_with fail
            refine (can37 (KQ.out _ HB.out) (KP.out b6 HB.out).2.1 HS.out P1.out (r := true) rfl).mono ?_
            rintro e b10 ⟨rfl, hb⟩
            have HX := Lib.hid (HB.out.trans (hb.mono HB.out.size))
            clear hb HB
            have HB := HX
            clear HX
            go_wp2_with fail
            refine (can37 (KQ.out _ HB.out) (KP.out b10 HB.out).2.1 HS.out P2.out (r := false) rfl).mono ?_
            rintro e b11 ⟨rfl, hb⟩
            have HX := Lib.hid (HB.out.trans (hb.mono HB.out.size))
            clear hb HB
            have HB := HX
            clear HX
            go_wp2_with fail
            refine (awake14 (w := _)).mono ?_
            rintro e c1 ⟨rfl, hb⟩
            have HX := Lib.hid (HB.out.trans (hb.mono HB.out.size))
            clear hb
            go_wp2_with fail
            go_ret
            exact ⟨rfl, (KP.out _ HX.out).2.2⟩
          · have m2 : (b == 0) = false := by simp [b0]
            have w2x : IntKind.i64.wrap (b - 1) = b - 1 := IntWalk.i64_in _ (by have := HAB.out.2; have := HA.out.2; omega)
            obtain ⟨n3, p3⟩ := HCAN.out a (b - 1) ⟨HAB.out.1, HA.out.1⟩ ⟨by have := HAB.out.2; omega, by have := HA.out.2; omega⟩
            rw [if_neg (by omega)] at p3
            have P3 := Lib.hid p3
            clear p3
            clear b0
            go_wp2_with fail
            refine (can37 (KQ.out _ HB.out) (KP.out b6 HB.out).2.1 HS.out P1.out (r := true) rfl).mono ?_
            rintro e b12 ⟨rfl, hb⟩
            have HX := Lib.hid (HB.out.trans (hb.mono HB.out.size))
            clear hb HB
            have HB := HX
            clear HX
            go_wp2_with fail
            refine (can37 (KQ.out _ HB.out) (KP.out b12 HB.out).2.1 HS.out P2.out (r := false) rfl).mono ?_
            rintro e b13 ⟨rfl, hb⟩
            have HX := Lib.hid (HB.out.trans (hb.mono HB.out.size))
            clear hb HB
            have HB := HX
            clear HX
            go_wp2_with fail
            refine (can37 (KQ.out _ HB.out) (KP.out b13 HB.out).2.1 HS.out P3.out (r := false) rfl).mono ?_
            rintro e b14 ⟨rfl, hb⟩
            have HX := Lib.hid (HB.out.trans (hb.mono HB.out.size))
            clear hb HB
            have HB := HX
            clear HX
            go_wp2_with fail
            refine (awake14 (w := _)).mono ?_
            rintro e c1 ⟨rfl, hb⟩
            have HX := Lib.hid (HB.out.trans (hb.mono HB.out.size))
            clear hb
            go_wp2_with fail
            go_ret
            exact ⟨rfl, (KP.out _ HX.out).2.2⟩
      · have g2 : decide (p.paper ≥ a) = true := by simpa using c1
        have g3 : decide (p.money ≥ b) = false := by simpa using c2
        obtain rfl : z = 10 := by rw [← HZ.out]; simp [c1, c2]
        clear HZ c1 c2
        go_wp2_with fail
        refine HK5.out _ _ ?_
        clear g0 g1 g2 g3
        skip
        refine wp_seq_hid ?_
        intro K6 HK6
        by_cases e1 : 1099511627776 < a
        · have h1 : decide (a > 1099511627776) = true := by simpa using e1
          go_wp2_with fail
          refine (awake14 (w := _)).mono ?_
          rintro e c1 ⟨rfl, hb⟩
          have HX := Lib.hid (HB.out.trans (hb.mono HB.out.size))
          clear hb
          go_wp2_with fail
          go_ret
          exact ⟨rfl, (KP.out _ HX.out).2.2⟩
        have h1 : decide (a > 1099511627776) = false := by simpa using e1
        by_cases e2 : 1099511627776 < b
        · have h2 : decide (b > 1099511627776) = true := by simpa using e2
          go_wp2_with fail
          refine (awake14 (w := _)).mono ?_
          rintro e c1 ⟨rfl, hb⟩
          have HX := Lib.hid (HB.out.trans (hb.mono HB.out.size))
          clear hb
          go_wp2_with fail
          go_ret
          exact ⟨rfl, (KP.out _ HX.out).2.2⟩
        have h2 : decide (b > 1099511627776) = false := by simpa using e2
        go_wp2_with fail
        refine HK6.out _ _ ?_
        clear HK6 K6
        clear h1 h2
        refine wp_seq_hid ?_
        intro K7 HK7
        go_wp2_with fail
        refine HK7.out _ _ ?_
        clear HK7 K7
        have HA := Lib.hid (show a ≤ 1099511627776 ∧ b ≤ 1099511627776 by omega)
        clear e1 e2
        obtain ⟨n1, p1⟩ := HCAN.out a b ⟨HAB.out.1, HA.out.1⟩ ⟨HAB.out.2, HA.out.2⟩
        rw [if_pos ⟨Int.le_refl a, Int.le_refl b⟩] at p1
        have P1 := Lib.hid p1
        clear p1
        by_cases a0 : a = 0
        · have m1 : (a == 0) = true := by simp [a0]
          clear a0
          by_cases b0 : b = 0
          · have m2 : (b == 0) = true := by simp [b0]
            clear b0
            go_wp2_with fail
            refine (can37 (KQ.out _ HB.out) (KP.out b6 HB.out).2.1 HS.out P1.out (r := true) rfl).mono ?_
            rintro e b15 ⟨rfl, hb⟩
            have HX := Lib.hid (HB.out.trans (hb.mono HB.out.size))
            clear hb HB
            have HB := HX
            clear HX
            go_wp2_with fail
            refine (awake14 (w := _)).mono ?_
            rintro e c1 ⟨rfl, hb⟩
            have HX := Lib.hid (HB.out.trans (hb.mono HB.out.size))
            clear hb
            go_wp2_with fail
            go_ret
            exact ⟨rfl, (KP.out _ HX.out).2.2⟩
          · have m2 : (b == 0) = false := by simp [b0]
            have w2x : IntKind.i64.wrap (b - 1) = b - 1 := IntWalk.i64_in _ (by have := HAB.out.2; have := HA.out.2; omega)
            obtain ⟨n3, p3⟩ := HCAN.out a (b - 1) ⟨HAB.out.1, HA.out.1⟩ ⟨by have := HAB.out.2; omega, by have := HA.out.2; omega⟩
            rw [if_neg (by omega)] at p3
            have P3 := Lib.hid p3
            clear p3
            clear b0
            go_wp2_with fail
            refine (can37 (KQ.out _ HB.out) (KP.out b6 HB.out).2.1 HS.out P1.out (r := true) rfl).mono ?_
            rintro e b16 ⟨rfl, hb⟩
            have HX := Lib.hid (HB.out.trans (hb.mono HB.out.size))
            clear hb HB
            have HB := HX
            clear HX
            go_wp2_with fail
            refine (can37 (KQ.out _ HB.out) (KP.out b16 HB.out).2.1 HS.out P3.out (r := false) rfl).mono ?_
            rintro e b17 ⟨rfl, hb⟩
            have HX := Lib.hid (HB.out.trans (hb.mono HB.out.size))
            clear hb HB
            have HB := HX
            clear HX
            go_wp2_with fail
            refine (awake14 (w := _)).mono ?_
            rintro e c1 ⟨rfl, hb⟩
            have HX := Lib.hid (HB.out.trans (hb.mono HB.out.size))
            clear hb
            go_wp2_with fail
            go_ret
            exact ⟨rfl, (KP.out _ HX.out).2.2⟩
        · have m1 : (a == 0) = false := by simp [a0]
          have w1x : IntKind.i64.wrap (a - 1) = a - 1 := IntWalk.i64_in _ (by have := HAB.out.1; have := HA.out.1; omega)
          obtain ⟨n2, p2⟩ := HCAN.out (a - 1) b ⟨by have := HAB.out.1; omega, by have := HA.out.1; omega⟩ ⟨HAB.out.2, HA.out.2⟩
          rw [if_neg (by omega)] at p2
          have P2 := Lib.hid p2
          clear p2
          clear a0
          by_cases b0 : b = 0
          · have m2 : (b == 0) = true := by simp [b0]
            clear b0
            go_wp2_with fail
            refine (can37 (KQ.out _ HB.out) (KP.out b6 HB.out).2.1 HS.out P1.out (r := true) rfl).mono ?_
            rintro e b18 ⟨rfl, hb⟩
            have HX := Lib.hid (HB.out.trans (hb.mono HB.out.size))
            clear hb HB
            have HB := HX
            clear HX
            go_wp2_with fail
            refine (can37 (KQ.out _ HB.out) (KP.out b18 HB.out).2.1 HS.out P2.out (r := false) rfl).mono ?_
            rintro e b19 ⟨rfl, hb⟩
            have HX := Lib.hid (HB.out.trans (hb.mono HB.out.size))
            clear hb HB
            have HB := HX
            clear HX
            go_wp2_with fail
            refine (awake14 (w := _)).mono ?_
            rintro e c1 ⟨rfl, hb⟩
            have HX := Lib.hid (HB.out.trans (hb.mono HB.out.size))
            clear hb
            go_wp2_with fail
            go_ret
            exact ⟨rfl, (KP.out _ HX.out).2.2⟩
          · have m2 : (b == 0) = false := by simp [b0]
            have w2x : IntKind.i64.wrap (b - 1) = b - 1 := IntWalk.i64_in _ (by have := HAB.out.2; have := HA.out.2; omega)
            obtain ⟨n3, p3⟩ := HCAN.out a (b - 1) ⟨HAB.out.1, HA.out.1⟩ ⟨by have := HAB.out.2; omega, by have := HA.out.2; omega⟩
            rw [if_neg (by omega)] at p3
            have P3 := Lib.hid p3
            clear p3
            clear b0
            go_wp2_with fail
            refine (can37 (KQ.out _ HB.out) (KP.out b6 HB.out).2.1 HS.out P1.out (r := true) rfl).mono ?_
            rintro e b20 ⟨rfl, hb⟩
            have HX := Lib.hid (HB.out.trans (hb.mono HB.out.size))
            clear hb HB
            have HB := HX
            clear HX
            go_wp2_with fail
            refine (can37 (KQ.out _ HB.out) (KP.out b20 HB.out).2.1 HS.out P2.out (r := false) rfl).mono ?_
            rintro e b21 ⟨rfl, hb⟩
            have HX := Lib.hid (HB.out.trans (hb.mono HB.out.size))
            clear hb HB
            have HB := HX
            clear HX
            go_wp2_with fail
            refine (can37 (KQ.out _ HB.out) (KP.out b21 HB.out).2.1 HS.out P3.out (r := false) rfl).mono ?_
            rintro e b22 ⟨rfl, hb⟩
            have HX := Lib.hid (HB.out.trans (hb.mono HB.out.size))
            clear hb HB
            have HB := HX
            clear HX
            go_wp2_with fail
            refine (awake14 (w := _)).mono ?_
            rintro e c1 ⟨rfl, hb⟩
            have HX := Lib.hid (HB.out.trans (hb.mono HB.out.size))
            clear hb
            go_wp2_with fail
            go_ret
            exact ⟨rfl, (KP.out _ HX.out).2.2⟩
    · have g2 : decide (p.paper ≥ a) = false := by simpa using c1
      obtain rfl : z = 10 := by rw [← HZ.out]; simp [c1]
      clear HZ c1
      go_wp2_with fail
      refine HK5.out _ _ ?_
      clear g0 g1 g2
      skip
      refine wp_seq_hid ?_
      intro K6 HK6
      by_cases e1 : 1099511627776 < a
      · have h1 : decide (a > 1099511627776) = true := by simpa using e1
        go_wp2_with fail
        refine (awake14 (w := _)).mono ?_
        rintro e c1 ⟨rfl, hb⟩
        have HX := Lib.hid (HB.out.trans (hb.mono HB.out.size))
        clear hb
        go_wp2_with fail
        go_ret
        exact ⟨rfl, (KP.out _ HX.out).2.2⟩
      have h1 : decide (a > 1099511627776) = false := by simpa using e1
      by_cases e2 : 1099511627776 < b
      · have h2 : decide (b > 1099511627776) = true := by simpa using e2
        go_wp2_with fail
        refine (awake14 (w := _)).mono ?_
        rintro e c1 ⟨rfl, hb⟩
        have HX := Lib.hid (HB.out.trans (hb.mono HB.out.size))
        clear hb
        go_wp2_with fail
        go_ret
        exact ⟨rfl, (KP.out _ HX.out).2.2⟩
      have h2 : decide (b > 1099511627776) = false := by simpa using e2
      go_wp2_with fail
      refine HK6.out _ _ ?_
      clear HK6 K6
      clear h1 h2
      refine wp_seq_hid ?_
      intro K7 HK7
      go_wp2_with fail
      refine HK7.out _ _ ?_
      clear HK7 K7
      have HA := Lib.hid (show a ≤ 1099511627776 ∧ b ≤ 1099511627776 by omega)
      clear e1 e2
      obtain ⟨n1, p1⟩ := HCAN.out a b ⟨HAB.out.1, HA.out.1⟩ ⟨HAB.out.2, HA.out.2⟩
      rw [if_pos ⟨Int.le_refl a, Int.le_refl b⟩] at p1
      have P1 := Lib.hid p1
      clear p1
      by_cases a0 : a = 0
      · have m1 : (a == 0) = true := by simp [a0]
        clear a0
        by_cases b0 : b = 0
        · have m2 : (b == 0) = true := by simp [b0]
          clear b0
          go_wp2_with fail
          refine (can37 (KQ.out _ HB.out) (KP.out b6 HB.out).2.1 HS.out P1.out (r := true) rfl).mono ?_
          rintro e b23 ⟨rfl, hb⟩
          have HX := Lib.hid (HB.out.trans (hb.mono HB.out.size))
          clear hb HB
          have HB := HX
          clear HX
          go_wp2_with fail
          refine (awake14 (w := _)).mono ?_
          rintro e c1 ⟨rfl, hb⟩
          have HX := Lib.hid (HB.out.trans (hb.mono HB.out.size))
          clear hb
          go_wp2_with fail
          go_ret
          exact ⟨rfl, (KP.out _ HX.out).2.2⟩
        · have m2 : (b == 0) = false := by simp [b0]
          have w2x : IntKind.i64.wrap (b - 1) = b - 1 := IntWalk.i64_in _ (by have := HAB.out.2; have := HA.out.2; omega)
          obtain ⟨n3, p3⟩ := HCAN.out a (b - 1) ⟨HAB.out.1, HA.out.1⟩ ⟨by have := HAB.out.2; omega, by have := HA.out.2; omega⟩
          rw [if_neg (by omega)] at p3
          have P3 := Lib.hid p3
          clear p3
          clear b0
          go_wp2_with fail
          refine (can37 (KQ.out _ HB.out) (KP.out b6 HB.out).2.1 HS.out P1.out (r := true) rfl).mono ?_
          rintro e b24 ⟨rfl, hb⟩
          have HX := Lib.hid (HB.out.trans (hb.mono HB.out.size))
          clear hb HB
          have HB := HX
          clear HX
          go_wp2_with fail
          refine (can37 (KQ.out _ HB.out) (KP.out b24 HB.out).2.1 HS.out P3.out (r := false) rfl).mono ?_
          rintro e b25 ⟨rfl, hb⟩
          have HX := Lib.hid (HB.out.trans (hb.mono HB.out.size))
          clear hb HB
          have HB := HX
          clear HX
          go_wp2_with fail
          refine (awake14 (w := _)).mono ?_
          rintro e c1 ⟨rfl, hb⟩
          have HX := Lib.hid (HB.out.trans (hb.mono HB.out.size))
          clear hb
          go_wp2_with fail
          go_ret
          exact ⟨rfl, (KP.out _ HX.out).2.2⟩
      · have m1 : (a == 0) = false := by simp [a0]
        have w1x : IntKind.i64.wrap (a - 1) = a - 1 := IntWalk.i64_in _ (by have := HAB.out.1; have := HA.out.1; omega)
        obtain ⟨n2, p2⟩ := HCAN.out (a - 1) b ⟨by have := HAB.out.1; omega, by have := HA.out.1; omega⟩ ⟨HAB.out.2, HA.out.2⟩
        rw [if_neg (by omega)] at p2
        have P2 := Lib.hid p2
        clear p2
        clear a0
        by_cases b0 : b = 0
        · have m2 : (b == 0) = true := by simp [b0]
          clear b0
          go_wp2_with fail
          refine (can37 (KQ.out _ HB.out) (KP.out b6 HB.out).2.1 HS.out P1.out (r := true) rfl).mono ?_
          rintro e b26 ⟨rfl, hb⟩
          have HX := Lib.hid (HB.out.trans (hb.mono HB.out.size))
          clear hb HB
          have HB := HX
          clear HX
          go_wp2_with fail
          refine (can37 (KQ.out _ HB.out) (KP.out b26 HB.out).2.1 HS.out P2.out (r := false) rfl).mono ?_
          rintro e b27 ⟨rfl, hb⟩
          have HX := Lib.hid (HB.out.trans (hb.mono HB.out.size))
          clear hb HB
          have HB := HX
          clear HX
          go_wp2_with fail
          refine (awake14 (w := _)).mono ?_
          rintro e c1 ⟨rfl, hb⟩
          have HX := Lib.hid (HB.out.trans (hb.mono HB.out.size))
          clear hb
          go_wp2_with fail
          go_ret
          exact ⟨rfl, (KP.out _ HX.out).2.2⟩
        · have m2 : (b == 0) = false := by simp [b0]
          have w2x : IntKind.i64.wrap (b - 1) = b - 1 := IntWalk.i64_in _ (by have := HAB.out.2; have := HA.out.2; omega)
          obtain ⟨n3, p3⟩ := HCAN.out a (b - 1) ⟨HAB.out.1, HA.out.1⟩ ⟨by have := HAB.out.2; omega, by have := HA.out.2; omega⟩
          rw [if_neg (by omega)] at p3
          have P3 := Lib.hid p3
          clear p3
          clear b0
          go_wp2_with fail
          refine (can37 (KQ.out _ HB.out) (KP.out b6 HB.out).2.1 HS.out P1.out (r := true) rfl).mono ?_
          rintro e b28 ⟨rfl, hb⟩
          have HX := Lib.hid (HB.out.trans (hb.mono HB.out.size))
          clear hb HB
          have HB := HX
          clear HX
          go_wp2_with fail
          refine (can37 (KQ.out _ HB.out) (KP.out b28 HB.out).2.1 HS.out P2.out (r := false) rfl).mono ?_
          rintro e b29 ⟨rfl, hb⟩
          have HX := Lib.hid (HB.out.trans (hb.mono HB.out.size))
          clear hb HB
          have HB := HX
          clear HX
          go_wp2_with fail
          refine (can37 (KQ.out _ HB.out) (KP.out b29 HB.out).2.1 HS.out P3.out (r := false) rfl).mono ?_
          rintro e b30 ⟨rfl, hb⟩
          have HX := Lib.hid (HB.out.trans (hb.mono HB.out.size))
          clear hb HB
          have HB := HX
          clear HX
          go_wp2_with fail
          refine (awake14 (w := _)).mono ?_
          rintro e c1 ⟨rfl, hb⟩
          have HX := Lib.hid (HB.out.trans (hb.mono HB.out.size))
          clear hb
          go_wp2_with fail
          go_ret
          exact ⟨rfl, (KP.out _ HX.out).2.2⟩
end Go.Proofs.Ytjkhclijmcmdjaa
namespace Go.Proofs.Ytjkhclijmcmdjaa
open Go.RowKit Go.WideShapes Go.ChangeShapes
section
variable {H : Type} {enc : TypeId × Value → H} {P : Program}
end
end Go.Proofs.Ytjkhclijmcmdjaa
namespace Go.Proofs.Ytjkhclijmcmdjaa
open Go.ChangeShapes Go.WideShapes Go.ChangeAt Go.Deep Go.RowKit Go.Joins
set_option linter.unusedVariables false
theorem Try.laidOut : laidOutB Try.prog = true := by kernel_rfl
section
variable {H : Type} {enc : TypeId × Value → H} {w : World} {base : Nat} {spare : Nat → Bool} {held : Bool}
end
end Go.Proofs.Ytjkhclijmcmdjaa
