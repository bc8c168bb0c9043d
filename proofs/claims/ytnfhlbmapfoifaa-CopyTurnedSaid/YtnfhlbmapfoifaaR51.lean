/- What can be of cards, by numbers: a way can be just if there are true numbers. Cards that are numbered otherwise: plain laws of CopyTurned. Cards that are numbered otherwise: as many comparisons are needed. CopyTurned: the fewest originals' way in a block of its own; numbers; wide. -/
import Derived.Test.YtnfhlbmapfoifaaR40
import Derived.Test.YtnfhlbmapfoifaaR30
import Derived.Test.YtnfhlbmapfoifaaR45
namespace Go.Proofs.Ytnfhlbmapfoifaa
open Go.RowKit
set_option linter.unusedVariables false
set_option linter.unusedSimpArgs false

/-- True numbers of cards: each within its own, and each copy as much less as can be. -/
structure Asg (p : Prs) (w : List Int) (what : Bool) (v : Nat → Int) : Prop where
  own : ∀ c, c < w.length → ((gp p.cards c).of what).1 ≤ v c ∧ v c ≤ ((gp p.cards c).of what).2
  step : ∀ c, c < w.length → gi w c ≠ -1 → (p.by_ what).1 ≤ v (gi w c).toNat - v c ∧ v (gi w c).toNat - v c ≤ (p.by_ what).2
theorem goW_asg {by_ : Int × Int} {rec : Nat → (Int × Int) × Bool} {w : List Int} {card : Nat} {v : Nat → Int} : ∀ (l : List Nat) (own : Int × Int), own.1 ≤ v card → v card ≤ own.2 →
    (∀ j ∈ l, gi w j = (card : Int) → (rec j).2 = true ∧ (rec j).1.1 ≤ v j ∧ v j ≤ (rec j).1.2 ∧ by_.1 ≤ v card - v j ∧ v card - v j ≤ by_.2) →
    (goW by_ rec w card own l).2 = true ∧ (goW by_ rec w card own l).1.1 ≤ v card ∧ v card ≤ (goW by_ rec w card own l).1.2
  | [], own, h1, h2, _ => ⟨by show decide (own.1 ≤ own.2) = true; simp; omega, h1, h2⟩
  | k :: r, own, h1, h2, h => by
    by_cases hk : gi w k = (card : Int)
    · obtain ⟨g1, g2, g3, g4, g5⟩ := h k (by simp) hk
      have e : goW by_ rec w card own (k :: r) = goW by_ rec w card (max own.1 ((rec k).1.1 + by_.1), min own.2 ((rec k).1.2 + by_.2)) r := by
        conv => lhs; unfold goW
        rw [if_pos hk]
        dsimp only
        rw [if_pos g1]
      rw [e]
      exact goW_asg r _ (by dsimp only; omega) (by dsimp only; omega) (fun j hj => h j (by simp [hj]))
    · have e : goW by_ rec w card own (k :: r) = goW by_ rec w card own r := by
        conv => lhs; unfold goW
        rw [if_neg hk]
      rw [e]
      exact goW_asg r _ h1 h2 (fun j hj => h j (by simp [hj]))
theorem upW_child {w : List Int} {j c : Nat} (h : gi w j = (c : Int)) (m : Nat) : upW w (m + 1) (j : Int) = upW w m (c : Int) := by
  show upW w m (if (j : Int) = -1 then -1 else gi w ((j : Int)).toNat) = _
  rw [if_neg (by omega), Int.toNat_natCast, h]
theorem whatF_asg {p : Prs} {w : List Int} {what : Bool} {v : Nat → Int} (A : Asg p w what v) (hr : roundB w = false) : ∀ (d c : Nat), c < w.length → (∀ m, m + d ≤ w.length → upW w m (c : Int) ≠ -1) →
    (whatF p w what d c).2 = true ∧ (whatF p w what d c).1.1 ≤ v c ∧ v c ≤ (whatF p w what d c).1.2
  | 0, c, hc, h => absurd (roundB_false.1 hr c hc) (h w.length (Nat.le_refl _))
  | d + 1, c, hc, h => by
    refine goW_asg _ _ (A.own c hc).1 (A.own c hc).2 (fun j hj he => ?_)
    have hjl := List.mem_range.1 hj
    have ih := whatF_asg A hr d j hjl (fun m hm => by
      cases m with
      | zero => show (j : Int) ≠ -1; omega
      | succ m => rw [upW_child he]; exact h m (by omega))
    have hs := A.step j hjl (by rw [he]; omega)
    rw [he, Int.toNat_natCast] at hs
    exact ⟨ih.1, ih.2.1, ih.2.2, hs⟩
theorem can_asg {p : Prs} {w : List Int} {what : Bool} {v : Nat → Int} (A : Asg p w what v) (hr : roundB w = false) : canB p w what = true := by
  unfold canB
  rw [List.all_eq_true]
  intro c hc
  rw [Bool.or_eq_true]
  exact .inr (whatF_asg A hr _ c (List.mem_range.1 hc) (fun m hm => by omega)).1
/-! ### and back -/
def pickV (w : List Int) (b : Int × Int) (I : Nat → Int × Int) : Nat → Nat → Int
  | 0, c => (I c).1
  | m + 1, c => if gi w c = -1 then (I c).1 else max (I c).1 (pickV w b I m (gi w c).toNat - b.2)
theorem pick_in {n : Nat} {w : List Int} (hw : GoodW n w) {b : Int × Int} {I : Nat → Int × Int} (hI : ∀ c, c < n → (I c).1 ≤ (I c).2) (hS : ∀ c, c < n → gi w c ≠ -1 → (I c).1 + b.1 ≤ (I (gi w c).toNat).1 ∧ (I (gi w c).toNat).2 ≤ (I c).2 + b.2) : ∀ (m c : Nat), c < n → upW w (m + 1) (c : Int) = -1 →
    (I c).1 ≤ pickV w b I m c ∧ pickV w b I m c ≤ (I c).2 ∧ pickV w b I (m + 1) c = pickV w b I m c
  | 0, c, hc, h => by
    have h1 : gi w c = -1 := by
      have : upW w 1 (c : Int) = (if (c : Int) = -1 then -1 else gi w ((c : Int)).toNat) := rfl
      rw [this, if_neg (by omega), Int.toNat_natCast] at h
      exact h
    refine ⟨Int.le_refl _, hI c hc, ?_⟩
    show (if gi w c = -1 then (I c).1 else _) = (I c).1
    rw [if_pos h1]
  | m + 1, c, hc, h => by
    by_cases h1 : gi w c = -1
    · have e : ∀ k, pickV w b I (k + 1) c = (I c).1 := fun k => by
        show (if gi w c = -1 then (I c).1 else _) = (I c).1
        rw [if_pos h1]
      rw [e, e]
      exact ⟨Int.le_refl _, hI c hc, rfl⟩
    · have hg := hw.gi hc
      obtain ⟨r, hr⟩ := Int.eq_ofNat_of_zero_le (show 0 ≤ gi w c by omega)
      have hrn : r < n := by omega
      obtain ⟨i1, i2, i3⟩ := pick_in hw hI hS m r hrn (by rw [← upW_child hr]; exact h)
      have hs := hS c hc h1
      have e : ∀ k, pickV w b I (k + 1) c = max (I c).1 (pickV w b I k r - b.2) := fun k => by
        show (if gi w c = -1 then (I c).1 else max (I c).1 (pickV w b I k (gi w c).toNat - b.2)) = _
        rw [if_neg h1, hr]; rfl
      rw [hr, Int.toNat_natCast] at hs
      have hi := hI c hc
      rw [e, e, i3]
      exact ⟨by omega, by omega, rfl⟩
theorem asg_can {p : Prs} {w : List Int} {what : Bool} (hw : GoodW p.cards.length w) (hr : roundB w = false) (hb : (p.by_ what).1 ≤ (p.by_ what).2) (h : canB p w what = true) : ∃ v, Asg p w what v := by
  have hl := hw.1
  have ht : ∀ c, c < p.cards.length → (whatF p w what (w.length + 1) c).2 = true := fun c hc => by
    cases e : (whatF p w what (w.length + 1) c).2
    · have := can_up (p := p) (what := what) hw hr w.length c (roundB_false.1 hr c (by omega)) hc e
      rw [h] at this; cases this
    · rfl
  have hfix : ∀ c, c < p.cards.length → whatF p w what (w.length + 1) c = goW (p.by_ what) (whatF p w what (w.length + 1)) w c ((gp p.cards c).of what) (List.range w.length) := fun c hc => (whatF_fuel (w.length + 1) c (dep_of hr (by omega))).symm
  have hbd : ∀ c, c < p.cards.length → _ := fun c hc => goW_bounds (List.range w.length) ((gp p.cards c).of what) (by rw [← hfix c hc]; exact ht c hc)
  have hI : ∀ c, c < p.cards.length → (whatF p w what (w.length + 1) c).1.1 ≤ (whatF p w what (w.length + 1) c).1.2 := fun c hc => by
    have := (hbd c hc).1
    rw [← hfix c hc] at this; exact this
  have hS : ∀ c, c < p.cards.length → gi w c ≠ -1 → (whatF p w what (w.length + 1) c).1.1 + (p.by_ what).1 ≤ (whatF p w what (w.length + 1) (gi w c).toNat).1.1 ∧ (whatF p w what (w.length + 1) (gi w c).toNat).1.2 ≤ (whatF p w what (w.length + 1) c).1.2 + (p.by_ what).2 := fun c hc h1 => by
    have hg := hw.gi hc
    obtain ⟨r, hr'⟩ := Int.eq_ofNat_of_zero_le (show 0 ≤ gi w c by omega)
    have hrn : r < p.cards.length := by omega
    have := ((hbd r hrn).2.2.2 c (List.mem_range.2 (by omega)) hr').2
    rw [← hfix r hrn] at this
    rw [hr', Int.toNat_natCast]
    exact this
  have hpk := fun c hc => pick_in (b := p.by_ what) (I := fun c => (whatF p w what (w.length + 1) c).1) hw hI hS w.length c hc (by
    have := upW_stays (roundB_false.1 hr c (by omega)) 1
    exact this)
  refine ⟨pickV w (p.by_ what) (fun c => (whatF p w what (w.length + 1) c).1) w.length, fun c hc => ?_, fun c hc h1 => ?_⟩
  · have h1 := hpk c (by omega)
    have h2 := hbd c (by omega)
    have e := hfix c (by omega)
    rw [← e] at h2
    exact ⟨Int.le_trans h2.2.1 h1.1, Int.le_trans h1.2.1 h2.2.2.1⟩
  · have hcn : c < p.cards.length := by omega
    have hg := hw.gi hcn
    have hq := hpk c hcn
    have hs := hS c hcn h1
    obtain ⟨r, hr'⟩ := Int.eq_ofNat_of_zero_le (show 0 ≤ gi w c by omega)
    have hrn : r < p.cards.length := by omega
    have hqr := hpk r hrn
    rw [hr', Int.toNat_natCast] at hs ⊢
    have e : pickV w (p.by_ what) (fun c => (whatF p w what (w.length + 1) c).1) (w.length + 1) c = max (whatF p w what (w.length + 1) c).1.1 (pickV w (p.by_ what) (fun c => (whatF p w what (w.length + 1) c).1) w.length r - (p.by_ what).2) := by
      show (if gi w c = -1 then _ else max _ (pickV w _ _ w.length (gi w c).toNat - _)) = _
      rw [if_neg h1, hr']; rfl
    rw [hq.2.2] at e
    rw [e]
    have h3 := hqr.1
    have h4 := hqr.2.1
    skip
    omega
theorem way_asg {p : Prs} (hv : p.valid = true) {w : List Int} (hw : GoodW p.cards.length w) : isWayB p w = true ↔ marksB p w = true ∧ roundB w = false ∧ ∀ what, ∃ v, Asg p w what v := by
  constructor
  · intro h
    obtain ⟨h1, h2, h3⟩ := way_parts h
    refine ⟨h1, h2, fun what => asg_can hw h2 ?_ (h3 what)⟩
    obtain ⟨_, _, p1, p2⟩ := valid_parts hv
    cases what
    · have : 0 ≤ p.llo ∧ p.llo ≤ p.lhi ∧ p.lhi ≤ 16384 := by simpa [spanOk, and_assoc] using p1
      exact this.2.1
    · have : 0 ≤ p.olo ∧ p.olo ≤ p.ohi ∧ p.ohi ≤ 16384 := by simpa [spanOk, and_assoc] using p2
      exact this.2.1
  · rintro ⟨h1, h2, h3⟩
    obtain ⟨v, hv1⟩ := h3 false
    obtain ⟨u, hu⟩ := h3 true
    unfold isWayB
    rw [h1, h2, can_asg hv1 h2, can_asg hu h2]
    rfl
end Go.Proofs.Ytnfhlbmapfoifaa

namespace Go.Proofs.Ytnfhlbmapfoifaa
open Go.RowKit
set_option linter.unusedVariables false
set_option linter.unusedSimpArgs false

/-- The pile x is p, with the cards numbered by σ. -/
structure TurnP (n : Nat) (σ τ : Nat → Nat) (p x : Prs) : Prop where
  np : p.cards.length = n
  nx : x.cards.length = n
  lt : ∀ v, v < n → σ v < n
  tl : ∀ v, v < n → τ v < n
  back : ∀ v, v < n → τ (σ v) = v
  fore : ∀ v, v < n → σ (τ v) = v
  card : ∀ v, v < n → gp x.cards (σ v) = gp p.cards v
  by_ : ∀ what, x.by_ what = p.by_ what
section
variable {n : Nat} {σ τ : Nat → Nat} {p x : Prs}
theorem TurnP.symm (T : TurnP n σ τ p x) : TurnP n τ σ x p :=
  ⟨T.nx, T.np, T.tl, T.lt, T.fore, T.back, fun v h => by have := T.card (τ v) (T.tl v h); rw [T.fore v h] at this; exact this.symm, fun what => (T.by_ what).symm⟩
def fT (σ : Nat → Nat) (k : Int) : Int := if k = -1 then -1 else ((σ k.toNat : Nat) : Int)
theorem fT_neg (σ : Nat → Nat) : fT σ (-1) = -1 := rfl
theorem fT_nat (σ : Nat → Nat) (k : Nat) : fT σ (k : Int) = ((σ k : Nat) : Int) := by unfold fT; rw [if_neg (by omega), Int.toNat_natCast]
theorem fT_eq {σ : Nat → Nat} {k : Int} : fT σ k = -1 ↔ k = -1 := by
  unfold fT
  constructor
  · intro h
    by_cases e : k = -1
    · exact e
    · rw [if_neg e] at h; omega
  · intro h; rw [if_pos h]
def turnW (n : Nat) (σ τ : Nat → Nat) (w : List Int) : List Int := (List.range n).map fun u => fT σ (gi w (τ u))
theorem turnW_len (w : List Int) : (turnW n σ τ w).length = n := by simp [turnW]
theorem turnW_gi (w : List Int) {u : Nat} (h : u < n) : gi (turnW n σ τ w) u = fT σ (gi w (τ u)) := by simp [turnW, gi, h]
theorem nat_or {n : Nat} {k : Int} (h : -1 ≤ k ∧ k < n) : k = -1 ∨ ∃ m : Nat, k = (m : Int) ∧ m < n := by
  by_cases e : k = -1
  · exact .inl e
  · exact .inr ⟨k.toNat, by omega, by omega⟩
theorem fT_rng (T : TurnP n σ τ p x) {k : Int} (h : -1 ≤ k ∧ k < n) : -1 ≤ fT σ k ∧ fT σ k < n := by
  rcases nat_or h with rfl | ⟨m, rfl, hm⟩
  · rw [fT_neg]; omega
  · rw [fT_nat]; have := T.lt m hm; omega
theorem fT_back (T : TurnP n σ τ p x) {k : Int} (h : -1 ≤ k ∧ k < n) : fT τ (fT σ k) = k := by
  rcases nat_or h with rfl | ⟨m, rfl, hm⟩
  · rfl
  · rw [fT_nat, fT_nat, T.back m hm]
theorem turn_good (T : TurnP n σ τ p x) {w : List Int} (h : GoodW n w) : GoodW n (turnW n σ τ w) := by
  refine ⟨turnW_len w, fun y hy => ?_⟩
  unfold turnW at hy
  rw [List.mem_map] at hy
  obtain ⟨u, hu, rfl⟩ := hy
  exact fT_rng T (h.gi (T.tl u (List.mem_range.1 hu)))
theorem turn_up (T : TurnP n σ τ p x) {w : List Int} (h : GoodW n w) : ∀ (m : Nat) (k : Int), (-1 ≤ k ∧ k < n) → upW (turnW n σ τ w) m (fT σ k) = fT σ (upW w m k)
  | 0, k, _ => rfl
  | m + 1, k, hk => by
    show upW (turnW n σ τ w) m (if fT σ k = -1 then -1 else gi (turnW n σ τ w) (fT σ k).toNat) = fT σ (upW w m (if k = -1 then -1 else gi w k.toNat))
    rcases nat_or hk with rfl | ⟨c, rfl, hc⟩
    · exact turn_up T h m (-1) (by omega)
    · rw [fT_nat, if_neg (by omega), if_neg (by omega), Int.toNat_natCast, Int.toNat_natCast, turnW_gi w (T.lt c hc), T.back c hc]
      exact turn_up T h m _ (h.gi hc)
theorem turn_round (T : TurnP n σ τ p x) {w : List Int} (h : GoodW n w) (hr : roundB w = false) : roundB (turnW n σ τ w) = false := by
  refine roundB_false.2 fun c hc => ?_
  rw [turnW_len] at hc ⊢
  have h1 := turn_up T h n (τ c : Nat) (by have := T.tl c hc; omega)
  rw [fT_nat, T.fore c hc] at h1
  rw [h1]
  have h2 := roundB_false.1 hr (τ c) (by rw [h.1]; exact T.tl c hc)
  rw [h.1] at h2
  rw [h2]; rfl
theorem turn_marked (T : TurnP n σ τ p x) {c f : Nat} (hc : c < n) (hf : f < n) : markedB x (σ c) (σ f) = markedB p c f := by
  unfold markedB
  rw [T.card c hc, T.card f hf]
theorem turn_marks (T : TurnP n σ τ p x) {w : List Int} (h : GoodW n w) (hm : marksB p w = true) : marksB x (turnW n σ τ w) = true := by
  unfold marksB at hm ⊢
  rw [List.all_eq_true] at hm ⊢
  intro c hc
  rw [turnW_len, List.mem_range] at hc
  have h1 := hm (τ c) (by rw [h.1]; exact List.mem_range.2 (T.tl c hc))
  rw [turnW_gi w hc]
  rw [Bool.or_eq_true] at h1 ⊢
  rcases nat_or (h.gi (T.tl c hc)) with e | ⟨f, e, hf⟩
  · rw [e]; exact .inl rfl
  · rw [e] at h1
    rcases h1 with h1 | h1
    · exfalso
      simp at h1
    · right
      rw [e, fT_nat, Int.toNat_natCast]
      rw [Int.toNat_natCast] at h1
      rw [← turn_marked T (T.tl c hc) hf, T.fore c hc] at h1
      exact h1
theorem turn_asg (T : TurnP n σ τ p x) {w : List Int} (h : GoodW n w) {what : Bool} {v : Nat → Int} (A : Asg p w what v) : Asg x (turnW n σ τ w) what (fun u => v (τ u)) := by
  refine ⟨fun c hc => ?_, fun c hc h1 => ?_⟩
  · rw [turnW_len] at hc
    have h2 := A.own (τ c) (by rw [h.1]; exact T.tl c hc)
    have h3 := T.symm.card c hc
    rw [h3] at h2
    exact h2
  · rw [turnW_len] at hc
    rw [turnW_gi w hc] at h1 ⊢
    have h2 : gi w (τ c) ≠ -1 := fun e => h1 (fT_eq.2 e)
    have h3 := A.step (τ c) (by rw [h.1]; exact T.tl c hc) h2
    rcases nat_or (h.gi (T.tl c hc)) with e | ⟨f, e, hf⟩
    · exact absurd e h2
    · rw [e] at h3 ⊢
      rw [fT_nat, Int.toNat_natCast, T.by_]
      rw [Int.toNat_natCast] at h3
      rw [T.back f hf]
      exact h3
theorem turn_way (T : TurnP n σ τ p x) (hv : p.valid = true) (hx : x.valid = true) {w : List Int} (h : GoodW n w) (hw : isWayB p w = true) : isWayB x (turnW n σ τ w) = true := by
  obtain ⟨h1, h2, h3⟩ := (way_asg hv (by rw [T.np]; exact h)).1 hw
  refine (way_asg hx (by rw [T.nx]; exact turn_good T h)).2 ⟨turn_marks T h h1, turn_round T h h2, fun what => ?_⟩
  obtain ⟨v, hv⟩ := h3 what
  exact ⟨_, turn_asg T h hv⟩
theorem turn_mem (T : TurnP n σ τ p x) (hv : p.valid = true) (hx : x.valid = true) {w : List Int} (h : w ∈ waysL p) : turnW n σ τ w ∈ waysL x := by
  have hg := way_good h
  rw [T.np] at hg
  obtain ⟨h1, h2, h3⟩ := ways_iff.1 h
  refine ways_iff.2 ⟨by rw [turnW_len, T.nx], fun j hj => ?_, turn_way T hv hx hg h3⟩
  rw [T.nx] at hj ⊢
  rw [T.np] at h2
  rw [turnW_gi w hj]
  have h4 := fT_rng T (hg.gi (T.tl j hj))
  refine ⟨h4.1, h4.2, fun e => ?_⟩
  rcases nat_or (hg.gi (T.tl j hj)) with e2 | ⟨f, e2, hf⟩
  · rw [e2, fT_neg] at e; omega
  · rw [e2, fT_nat] at e
    have e3 : σ f = j := by omega
    have e4 : f = τ j := by rw [← e3, T.back f hf]
    exact (h2 (τ j) (T.tl j hj)).2.2 (by rw [e2, e4])
theorem turn_turn (T : TurnP n σ τ p x) {w : List Int} (h : GoodW n w) : turnW n τ σ (turnW n σ τ w) = w := by
  refine eq_gi (by rw [turnW_len, h.1]) (fun u hu => ?_)
  rw [turnW_len] at hu
  rw [turnW_gi _ hu, turnW_gi w (T.lt u hu), T.back u hu, fT_back T (h.gi hu)]
theorem inj_len {α β : Type} {f : α → β} : ∀ {l : List α} {m : List β}, l.Nodup → (∀ a ∈ l, f a ∈ m) → (∀ a ∈ l, ∀ b ∈ l, f a = f b → a = b) → l.length ≤ m.length
  | [], m, _, _, _ => Nat.zero_le _
  | a :: r, m, hn, hs, hi => by
    obtain ⟨h1, h2⟩ := List.nodup_cons.1 hn
    obtain ⟨m1, m2, rfl⟩ := List.append_of_mem (hs a (by simp))
    have := inj_len (f := f) (l := r) (m := m1 ++ m2) h2 (fun y hy => by
      have h3 := hs y (by simp [hy])
      simp only [List.mem_append, List.mem_cons] at h3 ⊢
      rcases h3 with h | h | h
      · exact .inl h
      · exact absurd ((hi y (by simp [hy]) a (by simp) h) ▸ hy) h1
      · exact .inr h) (fun y hy z hz => hi y (by simp [hy]) z (by simp [hz]))
    simp only [List.length_append, List.length_cons] at this ⊢
    omega
theorem ways_nodup {p : Prs} : (waysL p).Nodup := List.Pairwise.imp (fun {a b} h e => by subst e; exact lexLt_irr _ h) ways_lex
theorem ways_le (T : TurnP n σ τ p x) (hv : p.valid = true) (hx : x.valid = true) : (waysL p).length ≤ (waysL x).length :=
  inj_len (f := turnW n σ τ) ways_nodup (fun w hw => turn_mem T hv hx hw) (fun a ha b hb e => by
    have ga := way_good ha
    have gb := way_good hb
    rw [T.np] at ga gb
    rw [← turn_turn T ga, e, turn_turn T gb])
theorem ways_turn (T : TurnP n σ τ p x) (hv : p.valid = true) (hx : x.valid = true) : (waysL x).length = (waysL p).length := Nat.le_antisymm (ways_le T.symm hx hv) (ways_le T hv hx)
theorem range_perm (T : TurnP n σ τ p x) : ((List.range n).map τ).Perm (List.range n) := by
  refine (List.perm_ext_iff_of_nodup ?_ List.nodup_range).2 (fun a => ?_)
  · rw [List.nodup_iff_pairwise_ne, List.pairwise_map]
    refine List.Pairwise.imp_of_mem ?_ (List.nodup_iff_pairwise_ne.1 (List.nodup_range (n := n)))
    intro a b ha hb hne e
    exact hne (by rw [← T.fore a (List.mem_range.1 ha), e, T.fore b (List.mem_range.1 hb)])
  · rw [List.mem_map, List.mem_range]
    constructor
    · rintro ⟨b, hb, rfl⟩
      exact T.tl b (List.mem_range.1 hb)
    · intro ha
      exact ⟨σ a, List.mem_range.2 (T.lt a ha), T.back a ha⟩
theorem orig_cnt {w : List Int} (h : w.length = n) : origN w = (List.range n).countP fun u => decide (gi w u = -1) := by
  have e : w = (List.range n).map (gi w) := eq_gi (by simp [h]) (fun u hu => by rw [h] at hu; simp [gi, hu])
  unfold origN
  conv => lhs; rw [e]
  rw [List.countP_map]
  rfl
theorem turn_orig (T : TurnP n σ τ p x) {w : List Int} (h : GoodW n w) : origN (turnW n σ τ w) = origN w := by
  have e := (range_perm T).countP_eq (fun u => decide (gi w u = -1))
  rw [orig_cnt h.1, orig_cnt (n := n) (turnW_len w), ← e, List.countP_map]
  refine List.countP_congr (fun u hu => ?_)
  rw [turnW_gi w (List.mem_range.1 hu)]
  simp only [Function.comp, decide_eq_true_eq, fT_eq]
theorem few_le (T : TurnP n σ τ p x) (hv : p.valid = true) (hx : x.valid = true) : origN (fewestW x) ≤ origN (fewestW p) := by
  have h := fewest_mem hv
  have hg := way_good h
  rw [T.np] at hg
  rw [← turn_orig T hg]
  exact fewest_le (turn_mem T hv hx h)
theorem few_turn (T : TurnP n σ τ p x) (hv : p.valid = true) (hx : x.valid = true) : origN (fewestW x) = origN (fewestW p) := Nat.le_antisymm (few_le T hv hx) (few_le T.symm hx hv)
theorem turn_comesF (T : TurnP n σ τ p x) {w : List Int} (h : GoodW n w) {f : Nat} (hf : f < n) : ∀ (m : Nat) (k : Int), (-1 ≤ k ∧ k < n) → comesF (turnW n σ τ w) ((σ f : Nat) : Int) m (fT σ k) = comesF w (f : Int) m k
  | 0, k, _ => rfl
  | m + 1, k, hk => by
    show (if fT σ k = -1 then false else if fT σ k = ((σ f : Nat) : Int) then true else comesF (turnW n σ τ w) _ m (gi (turnW n σ τ w) (fT σ k).toNat)) = (if k = -1 then false else if k = (f : Int) then true else comesF w _ m (gi w k.toNat))
    rcases nat_or hk with rfl | ⟨c, rfl, hc⟩
    · rw [fT_neg, if_pos rfl, if_pos rfl]
    · rw [fT_nat, if_neg (show ¬ ((σ c : Nat) : Int) = -1 by omega), if_neg (show ¬ ((c : Nat) : Int) = -1 by omega)]
      by_cases e : c = f
      · subst e; rw [if_pos rfl, if_pos rfl]
      · have e2 : σ c ≠ σ f := fun e2 => e (by rw [← T.back c hc, e2, T.back f hf])
        rw [if_neg (show ¬ ((σ c : Nat) : Int) = ((σ f : Nat) : Int) by omega), if_neg (show ¬ ((c : Nat) : Int) = (f : Int) by omega), Int.toNat_natCast, Int.toNat_natCast, turnW_gi w (T.lt c hc), T.back c hc]
        exact turn_comesF T h hf m _ (h.gi hc)
theorem turn_comes (T : TurnP n σ τ p x) {w : List Int} (h : GoodW n w) {i f : Nat} (hi : i < n) (hf : f < n) : comesB (turnW n σ τ w) (σ i) (σ f) = comesB w i f := by
  unfold comesB
  rw [turnW_gi w (T.lt i hi), T.back i hi, turnW_len, h.1]
  exact turn_comesF T h hf _ _ (h.gi hi)
theorem turn_card (T : TurnP n σ τ p x) {i : Nat} (hi : i < n) : p.card (i : Int) = true ∧ x.card ((σ i : Nat) : Int) = true := by
  have := T.lt i hi
  unfold Prs.card inR
  rw [T.np, T.nx, Bool.and_eq_true, Bool.and_eq_true, decide_eq_true_eq, decide_eq_true_eq, decide_eq_true_eq, decide_eq_true_eq]
  omega
theorem turn_openE (T : TurnP n σ τ p x) (hv : p.valid = true) (hx : x.valid = true) {i f : Nat} (hi : i < n) (hf : f < n) : openE x (x.card ((σ i : Nat) : Int) && x.card ((σ f : Nat) : Int) && !decide (((σ i : Nat) : Int) = ((σ f : Nat) : Int))) = openE p (p.card (i : Int) && p.card (f : Int) && !decide ((i : Int) = (f : Int))) := by
  have h1 := turn_card T hi
  have h2 := turn_card T hf
  have e : decide (((σ i : Nat) : Int) = ((σ f : Nat) : Int)) = decide ((i : Int) = (f : Int)) := by
    rw [decide_eq_decide]
    constructor
    · intro e
      have e2 : σ i = σ f := by omega
      rw [← T.back i hi, e2, T.back f hf]
    · intro e
      have e2 : i = f := by omega
      rw [e2]
  rw [h1.1, h1.2, h2.1, h2.2, e]
  unfold openE
  rw [hv, hx]
theorem from_turn (T : TurnP n σ τ p x) (hv : p.valid = true) (hx : x.valid = true) {i f : Nat} (hi : i < n) (hf : f < n) : fromE x ((σ i : Nat) : Int) ((σ f : Nat) : Int) = fromE p (i : Int) (f : Int) := by
  have hE := turn_openE T hv hx hi hf
  unfold fromE
  simp only
  rw [hE]
  split
  · rw [few_turn T hv hx]
    simp only [Int.toNat_natCast]
    have key : ∀ b : Bool, (∃ y ∈ ((waysL x).filter fun w => decide (origN w = origN (fewestW p))).map fun w => comesB w (σ i) (σ f), y = b) ↔ ∃ y ∈ ((waysL p).filter fun w => decide (origN w = origN (fewestW p))).map fun w => comesB w i f, y = b := by
      intro b
      constructor
      · rintro ⟨y, hy, rfl⟩
        rw [List.mem_map] at hy
        obtain ⟨w, hw, rfl⟩ := hy
        rw [List.mem_filter, decide_eq_true_eq] at hw
        have hg := way_good hw.1
        rw [T.nx] at hg
        refine ⟨_, List.mem_map.2 ⟨turnW n τ σ w, List.mem_filter.2 ⟨turn_mem T.symm hx hv hw.1, ?_⟩, rfl⟩, ?_⟩
        · rw [decide_eq_true_eq, turn_orig T.symm hg]; exact hw.2
        · have := turn_comes T.symm hg (T.lt i hi) (T.lt f hf)
          rw [T.back i hi, T.back f hf] at this
          exact this
      · rintro ⟨y, hy, rfl⟩
        rw [List.mem_map] at hy
        obtain ⟨w, hw, rfl⟩ := hy
        rw [List.mem_filter, decide_eq_true_eq] at hw
        have hg := way_good hw.1
        rw [T.np] at hg
        refine ⟨_, List.mem_map.2 ⟨turnW n σ τ w, List.mem_filter.2 ⟨turn_mem T hv hx hw.1, ?_⟩, rfl⟩, turn_comes T hg hi hf⟩
        rw [decide_eq_true_eq, turn_orig T hg]; exact hw.2
    have ha : ∀ l m : List Bool, (∀ b, (∃ y ∈ l, y = b) ↔ ∃ y ∈ m, y = b) → l.all id = m.all id ∧ l.any id = m.any id := fun l m h => by
      have h' : ∀ b, b ∈ l ↔ b ∈ m := fun b => by
        have := h b
        simpa using this
      constructor
      · rw [Bool.eq_iff_iff, List.all_eq_true, List.all_eq_true]
        exact ⟨fun q y hy => q y ((h' y).2 hy), fun q y hy => q y ((h' y).1 hy)⟩
      · rw [Bool.eq_iff_iff, List.any_eq_true, List.any_eq_true]
        exact ⟨fun ⟨y, hy, e⟩ => ⟨y, (h' y).1 hy, e⟩, fun ⟨y, hy, e⟩ => ⟨y, (h' y).2 hy, e⟩⟩
    obtain ⟨a1, a2⟩ := ha _ _ key
    simp only [a1, a2]
  · rfl
theorem fits_turn (T : TurnP n σ τ p x) (hv : p.valid = true) (hx : x.valid = true) {i f : Nat} (hi : i < n) (hf : f < n) : fitsE x ((σ i : Nat) : Int) ((σ f : Nat) : Int) = fitsE p (i : Int) (f : Int) := by
  have hE := turn_openE T hv hx hi hf
  unfold fitsE
  simp only
  rw [hE]
  split
  · have b1 := T.by_ false
    have b2 := T.by_ true
    have e : ({ x with cards := [gp x.cards (σ f), gp x.cards (σ i)] } : Prs) = { p with cards := [gp p.cards f, gp p.cards i] } := by
      rw [T.card i hi, T.card f hf]
      have b1 : (x.llo, x.lhi) = (p.llo, p.lhi) := b1
      have b2 : (x.olo, x.ohi) = (p.olo, p.ohi) := b2
      simp only [Prod.mk.injEq] at b1 b2
      rw [b1.1, b1.2, b2.1, b2.2]
    simp only [Int.toNat_natCast]
    rw [e]
  · rfl
theorem par_turn (T : TurnP n σ τ p x) (hv : p.valid = true) (hx : x.valid = true) {i m : Nat} (hi : i < n) (hm : m < n) : (parS (parL x (σ i) (waysL x).length)).testBit (σ m) = (parS (parL p i (waysL p).length)).testBit m := by
  rw [Bool.eq_iff_iff, par_all (by rw [T.nx]; exact T.lt i hi), par_all (by rw [T.np]; exact hi)]
  constructor
  · rintro ⟨w, hw, e⟩
    have hg := way_good hw
    rw [T.nx] at hg
    refine ⟨turnW n τ σ w, turn_mem T.symm hx hv hw, ?_⟩
    rw [turnW_gi w hi, e, fT_nat, T.back m hm]
  · rintro ⟨w, hw, e⟩
    refine ⟨turnW n σ τ w, turn_mem T hv hx hw, ?_⟩
    rw [turnW_gi w (T.lt i hi), T.back i hi, e, fT_nat]
/-! ### orders -/
def turnO (σ : Nat → Nat) (o : List Int) : List Int := o.map (fT σ)
theorem turnO_gi {o : List Int} {k : Nat} (h : k < o.length) : gi (turnO σ o) k = fT σ (gi o k) := by simp [turnO, gi, h]
theorem turn_perm (T : TurnP n σ τ p x) {o : List Int} (h : IsPerm n o) : IsPerm n (turnO σ o) := by
  refine ⟨by simp [turnO, h.1], ?_, fun y hy => ?_⟩
  · unfold turnO
    rw [List.nodup_iff_pairwise_ne, List.pairwise_map]
    refine List.Pairwise.imp_of_mem ?_ (List.nodup_iff_pairwise_ne.1 h.2.1)
    intro a b ha hb hne e
    have ra := h.2.2 a ha
    have rb := h.2.2 b hb
    exact hne (by rw [← fT_back T (k := a) (by omega), e, fT_back T (k := b) (by omega)])
  · unfold turnO at hy
    rw [List.mem_map] at hy
    obtain ⟨a, ha, rfl⟩ := hy
    obtain ⟨m, rfl⟩ := Int.eq_ofNat_of_zero_le (h.2.2 a ha).1
    have := T.lt m (by have := (h.2.2 _ ha).2; omega)
    rw [fT_nat]; omega
theorem turnO_turnO (T : TurnP n σ τ p x) {o : List Int} (h : IsPerm n o) : turnO τ (turnO σ o) = o := by
  unfold turnO
  rw [List.map_map]
  conv => rhs; rw [← List.map_id o]
  refine List.map_congr_left (fun a ha => ?_)
  have := h.2.2 a ha
  exact fT_back T (by omega)
theorem turn_chain (T : TurnP n σ τ p x) {o : List Int} (h : IsPerm n o) : chainL (turnO σ o) = turnW n σ τ (chainL o) := by
  have hp := turn_perm T h
  refine eq_gi (by rw [chainL_len, turnW_len]; exact hp.1) (fun u hu => ?_)
  rw [chainL_len, hp.1] at hu
  obtain ⟨k, hk, e⟩ := perm_has hp (c := (u : Int)) (by omega) (by omega)
  have h1 := chain_gi hp hk
  rw [e, Int.toNat_natCast] at h1
  have hk2 : k < o.length := by rw [h.1]; exact hk
  rw [turnO_gi hk2] at e
  have hr := perm_rng h hk
  obtain ⟨m, hm⟩ := Int.eq_ofNat_of_zero_le hr.1
  have hm : gi o k = (m : Int) := hm
  have hmn : m < n := by omega
  rw [hm, fT_nat] at e
  have e2 : τ u = m := by rw [← T.back m hmn]; congr 1; omega
  have h2 := chain_gi h hk
  rw [hm, Int.toNat_natCast] at h2
  rw [h1, turnW_gi _ hu, e2, h2]
  split
  · rfl
  · rw [turnO_gi (by omega)]
theorem turn_orders (T : TurnP n σ τ p x) (hv : p.valid = true) (hx : x.valid = true) {o : List Int} (h : o ∈ ordersL p) : turnO σ o ∈ ordersL x := by
  obtain ⟨h1, h2⟩ := orders_iff.1 h
  rw [T.np] at h1
  refine orders_iff.2 ⟨by rw [T.nx]; exact turn_perm T h1, ?_⟩
  rw [turn_chain T h1]
  have hg := way_good (chain_way h)
  rw [T.np] at hg
  exact turn_way T hv hx hg h2
theorem orders_le (T : TurnP n σ τ p x) (hv : p.valid = true) (hx : x.valid = true) : (ordersL p).length ≤ (ordersL x).length :=
  inj_len (f := turnO σ) orders_nodup (fun o ho => turn_orders T hv hx ho) (fun a ha b hb e => by
    have ga := (orders_iff.1 ha).1
    have gb := (orders_iff.1 hb).1
    rw [T.np] at ga gb
    rw [← turnO_turnO T ga, e, turnO_turnO T gb])
theorem orders_turn (T : TurnP n σ τ p x) (hv : p.valid = true) (hx : x.valid = true) : (ordersL x).length = (ordersL p).length := Nat.le_antisymm (orders_le T.symm hx hv) (orders_le T hv hx)
end
end Go.Proofs.Ytnfhlbmapfoifaa

namespace Go.Proofs.Ytnfhlbmapfoifaa
open Go.RowKit
set_option linter.unusedVariables false
set_option linter.unusedSimpArgs false

theorem pairs_has {n a b : Nat} (h : a < b) (hb : b < n) : (a, b) ∈ pairsL n := by
  unfold pairsL
  rw [List.mem_flatMap]
  exact ⟨a, List.mem_range.2 (by omega), List.mem_map.2 ⟨b, List.mem_filter.2 ⟨List.mem_range.2 hb, by simpa using h⟩, rfl⟩⟩
theorem fold_get (os : List (List Int)) (n S : Nat) : ∀ (l : List (Nat × Nat)) (b : Nat), l.foldl (stepN os n S) b = b ∨ ∃ x, x ∈ l ∧ splB os S x = true ∧ l.foldl (stepN os n S) b = 1 + mxN (needV os n (befS os S x.1 x.2)) (needV os n (aftS os S x.1 x.2))
  | [], b => .inl rfl
  | y :: r, b => by
    have e : (y :: r).foldl (stepN os n S) b = r.foldl (stepN os n S) (stepN os n S b y) := rfl
    rw [e]
    rcases fold_get os n S r (stepN os n S b y) with h | ⟨x, hx, h1, h2⟩
    · rw [h]
      unfold stepN mnN
      split
      · rename_i hc
        by_cases hm : b ≤ 1 + mxN (needV os n (befS os S y.1 y.2)) (needV os n (aftS os S y.1 y.2))
        · exact .inl (Nat.min_eq_left hm)
        · refine .inr ⟨y, by simp, ?_, Nat.min_eq_right (by omega)⟩
          unfold splB
          simp [hc.1, hc.2]
      · exact .inl rfl
    · exact .inr ⟨x, by simp [hx], h1, h2⟩
/-- The orders that bits tell are the same, numbered otherwise. -/
structure Im (n : Nat) (σ : Nat → Nat) (os1 os2 : List (List Int)) (S1 S2 : Nat) : Prop where
  b1 : S1 < 2 ^ 128
  b2 : S2 < 2 ^ 128
  s1 : Sub os1 S1
  s2 : Sub os2 S2
  bit : ∀ i j, i < os1.length → j < os2.length → os2.getD j [] = turnO σ (os1.getD i []) → S1.testBit i = S2.testBit j
/-- Two lists of orders, one of the other numbered otherwise. -/
structure Tos (n : Nat) (σ τ : Nat → Nat) (os1 os2 : List (List Int)) : Prop where
  l1 : os1.length ≤ 128
  l2 : os2.length ≤ 128
  p1 : ∀ o ∈ os1, IsPerm n o
  p2 : ∀ o ∈ os2, IsPerm n o
  n1 : os1.Nodup
  n2 : os2.Nodup
  there : ∀ o ∈ os1, turnO σ o ∈ os2
  fro : ∀ o ∈ os2, turnO τ o ∈ os1
  back : ∀ o, IsPerm n o → turnO τ (turnO σ o) = o
  fore : ∀ o, IsPerm n o → turnO σ (turnO τ o) = o
  lt : ∀ v, v < n → σ v < n
  tl : ∀ v, v < n → τ v < n
  sb : ∀ v, v < n → τ (σ v) = v
  sf : ∀ v, v < n → σ (τ v) = v
section
variable {n : Nat} {σ τ : Nat → Nat} {os1 os2 : List (List Int)} {S1 S2 : Nat}
theorem Tos.symm (T : Tos n σ τ os1 os2) : Tos n τ σ os2 os1 := ⟨T.l2, T.l1, T.p2, T.p1, T.n2, T.n1, T.fro, T.there, T.fore, T.back, T.tl, T.lt, T.sf, T.sb⟩
theorem getD_mem {l : List (List Int)} {i : Nat} (h : i < l.length) : l.getD i [] ∈ l := by simp [h]
theorem Im.symm (T : Tos n σ τ os1 os2) (h : Im n σ os1 os2 S1 S2) : Im n τ os2 os1 S2 S1 :=
  ⟨h.b2, h.b1, h.s2, h.s1, fun j i hj hi e => (h.bit i j hi hj (by rw [e, T.fore _ (T.p2 _ (getD_mem hj))])).symm⟩
theorem nodup_at {l : List (List Int)} (hn : l.Nodup) {i j : Nat} (hi : i < l.length) (hj : j < l.length) (e : l.getD i [] = l.getD j []) : i = j := by
  have h := List.pairwise_iff_getElem.1 (List.nodup_iff_pairwise_ne.1 hn)
  have e : l[i] = l[j] := by simpa [hi, hj] using e
  rcases Nat.lt_trichotomy i j with h1 | h1 | h1
  · exact absurd e (h i j hi hj h1)
  · exact h1
  · exact absurd e.symm (h j i hj hi h1)
theorem im_at (T : Tos n σ τ os1 os2) {i : Nat} (hi : i < os1.length) : ∃ j, j < os2.length ∧ os2.getD j [] = turnO σ (os1.getD i []) := by
  have h := T.there _ (getD_mem hi)
  obtain ⟨j, hj, e⟩ := List.mem_iff_getElem.1 h
  exact ⟨j, hj, by simp [hj, e]⟩
theorem manyT_le (T : Tos n σ τ os1 os2) (h : Im n σ os1 os2 S1 S2) : manyS S1 ≤ manyS S2 := by
  have hf : ∀ i, ∃ j, i < os1.length → j < os2.length ∧ os2.getD j [] = turnO σ (os1.getD i []) := fun i => by
    by_cases hi : i < os1.length
    · obtain ⟨j, hj⟩ := im_at T hi
      exact ⟨j, fun _ => hj⟩
    · exact ⟨0, fun h => absurd h hi⟩
  obtain ⟨f, hf⟩ := Classical.skolem.1 hf
  unfold manyS
  rw [List.countP_eq_length_filter, List.countP_eq_length_filter]
  refine inj_len (f := f) (List.Pairwise.filter _ (List.nodup_range (n := 128))) (fun a ha => ?_) (fun a ha b hb e => ?_)
  · rw [List.mem_filter] at ha
    have hal := h.s1 a ha.2
    obtain ⟨h1, h2⟩ := hf a hal
    rw [List.mem_filter, List.mem_range]
    exact ⟨by have := T.l2; omega, by rw [← h.bit a (f a) hal h1 h2]; exact ha.2⟩
  · rw [List.mem_filter] at ha hb
    have hal := h.s1 a ha.2
    have hbl := h.s1 b hb.2
    obtain ⟨_, h2⟩ := hf a hal
    obtain ⟨_, h3⟩ := hf b hbl
    rw [e, h3] at h2
    refine nodup_at T.n1 hal hbl ?_
    rw [← T.back _ (T.p1 _ (getD_mem hal)), ← h2, T.back _ (T.p1 _ (getD_mem hbl))]
theorem many_im (T : Tos n σ τ os1 os2) (h : Im n σ os1 os2 S1 S2) : manyS S1 = manyS S2 := Nat.le_antisymm (manyT_le T h) (manyT_le T.symm (h.symm T))
theorem turn_index (T : Tos n σ τ os1 os2) {o : List Int} (h : IsPerm n o) (h2 : IsPerm n (turnO σ o)) {a : Nat} (ha : a < n) : indexL (turnO σ o) ((σ a : Nat) : Int) = indexL o (a : Int) := by
  obtain ⟨k, hk, e⟩ := perm_has h (c := (a : Int)) (by omega) (by omega)
  have h3 := perm_index h hk
  have h4 := perm_index h2 hk
  rw [turnO_gi (by rw [h.1]; exact hk), e, fT_nat] at h4
  rw [e] at h3
  rw [h3, h4]
theorem turn_befB (T : Tos n σ τ os1 os2) {o : List Int} (h : IsPerm n o) (h2 : IsPerm n (turnO σ o)) {a b : Nat} (ha : a < n) (hb : b < n) : befB ((σ a : Nat) : Int) ((σ b : Nat) : Int) (turnO σ o) = befB (a : Int) (b : Int) o := by
  unfold befB
  rw [turn_index T h h2 ha, turn_index T h h2 hb]
theorem befB_not {o : List Int} (h : IsPerm n o) {a b : Nat} (ha : a < n) (hb : b < n) (hne : a ≠ b) : befB (b : Int) (a : Int) o = !befB (a : Int) (b : Int) o := by
  obtain ⟨i, hi, ei⟩ := perm_has h (c := (a : Int)) (by omega) (by omega)
  obtain ⟨j, hj, ej⟩ := perm_has h (c := (b : Int)) (by omega) (by omega)
  have h3 := perm_index h hi
  have h4 := perm_index h hj
  rw [ei] at h3
  rw [ej] at h4
  unfold befB
  rw [h3, h4]
  have hij : i ≠ j := fun e => by subst e; rw [ei] at ej; omega
  rw [← decide_not, decide_eq_decide]
  omega
theorem Im.bef (T : Tos n σ τ os1 os2) (h : Im n σ os1 os2 S1 S2) {a b : Nat} (ha : a < n) (hb : b < n) : Im n σ os1 os2 (befS os1 S1 a b) (befS os2 S2 (σ a) (σ b)) := by
  refine ⟨bef_lt T.l1 _ _ _, bef_lt T.l2 _ _ _, bef_in _ _ _ _, bef_in _ _ _ _, fun i j hi hj e => ?_⟩
  have hp := T.p1 _ (getD_mem hi)
  rw [bef_bit, bef_bit, h.bit i j hi hj e, e, turn_befB T hp (by rw [← e]; exact T.p2 _ (getD_mem hj)) ha hb]
  simp [hi, hj]
theorem Im.aft (T : Tos n σ τ os1 os2) (h : Im n σ os1 os2 S1 S2) {a b : Nat} (ha : a < n) (hb : b < n) : Im n σ os1 os2 (aftS os1 S1 a b) (aftS os2 S2 (σ a) (σ b)) := by
  refine ⟨aft_lt T.l1 _ _ _, aft_lt T.l2 _ _ _, fun i q => h.s1 i (aft_sub _ _ _ _ i q), fun i q => h.s2 i (aft_sub _ _ _ _ i q), fun i j hi hj e => ?_⟩
  have hp := T.p1 _ (getD_mem hi)
  rw [aft_bit, aft_bit, h.bit i j hi hj e, e, turn_befB T hp (by rw [← e]; exact T.p2 _ (getD_mem hj)) ha hb]
  simp [hi, hj]
theorem swap_bef {os : List (List Int)} (hp : ∀ o ∈ os, IsPerm n o) (S : Nat) {a b : Nat} (ha : a < n) (hb : b < n) (hne : a ≠ b) : befS os S b a = aftS os S a b := Nat.eq_of_testBit_eq fun i => by
  rw [bef_bit, aft_bit]
  by_cases hi : i < os.length
  · rw [befB_not (hp _ (getD_mem hi)) ha hb hne]
  · simp [hi]
theorem swap_aft {os : List (List Int)} (hp : ∀ o ∈ os, IsPerm n o) (S : Nat) {a b : Nat} (ha : a < n) (hb : b < n) (hne : a ≠ b) : aftS os S b a = befS os S a b := (swap_bef hp S hb ha (Ne.symm hne)).symm
theorem im_ne (T : Tos n σ τ os1 os2) {X1 X2 : Nat} (h : Im n σ os1 os2 S1 S2) (hx : Im n σ os1 os2 X1 X2) (hne : X1 ≠ S1) : X2 ≠ S2 := fun e => hne (by
  subst e
  refine Nat.eq_of_testBit_eq fun i => ?_
  by_cases hi : i < os1.length
  · obtain ⟨j, hj, e⟩ := im_at T hi
    rw [h.bit i j hi hj e, hx.bit i j hi hj e]
  · have h1 : X1.testBit i = false := by
      cases e : X1.testBit i
      · rfl
      · exact absurd (hx.s1 i e) hi
    have h2 : S1.testBit i = false := by
      cases e : S1.testBit i
      · rfl
      · exact absurd (h.s1 i e) hi
    rw [h1, h2])
theorem mxT_swap (a b : Nat) : mxN a b = mxN b a := Nat.max_comm a b
theorem mxT_le {a b c d : Nat} (h1 : a ≤ c) (h2 : b ≤ d) : mxN a b ≤ mxN c d := by show max a b ≤ max c d; omega
theorem needV_turn (T : Tos n σ τ os1 os2) : ∀ (m S1 S2 : Nat), manyS S1 ≤ m → Im n σ os1 os2 S1 S2 → needV os2 n S2 ≤ needV os1 n S1
  | 0, S1, S2, hm, h => by
    rw [needV_few (by rw [← many_im T h]; omega)]
    exact Nat.zero_le _
  | m + 1, S1, S2, hm, h => by
    by_cases h1 : manyS S1 ≤ 1
    · rw [needV_few (by rw [← many_im T h]; omega)]
      exact Nat.zero_le _
    · have h2 : ¬ manyS S2 ≤ 1 := by rw [← many_im T h]; exact h1
      rw [needV_step T.l1 h.b1 h1]
      rcases fold_get os1 n S1 (pairsL n) (n * n) with e | ⟨⟨a, b⟩, hx, hs, e⟩
      · rw [e]; exact needV_le T.l2 h.b2
      · rw [e, needV_step T.l2 h.b2 h2]
        obtain ⟨hab, hbn⟩ := pairs_mem hx
        have hab : a < b := hab
        have hbn : b < n := hbn
        have han : a < n := by omega
        unfold splB at hs
        rw [Bool.and_eq_true, decide_eq_true_eq, decide_eq_true_eq] at hs
        have ib := h.bef T han hbn
        have ia := h.aft T han hbn
        have lb := many_lt h.b1 (bef_sub os1 S1 a b) hs.1
        have la := many_lt h.b1 (aft_sub os1 S1 a b) hs.2
        have kb := needV_turn T m _ _ (by omega) ib
        have ka := needV_turn T m _ _ (by omega) ia
        have nb := im_ne T h ib hs.1
        have na := im_ne T h ia hs.2
        have hsn : σ a ≠ σ b := fun e => by
          have : a = b := by rw [← T.sb a han, e, T.sb b hbn]
          omega
        rcases Nat.lt_or_gt_of_ne hsn with hlt | hlt
        · have hsp : splB os2 S2 (σ a, σ b) = true := by
            unfold splB
            rw [Bool.and_eq_true, decide_eq_true_eq, decide_eq_true_eq]
            exact ⟨nb, na⟩
          refine Nat.le_trans (fold_hit os2 n S2 hsp _ _ (pairs_has hlt (T.lt b hbn))) ?_
          have := mxT_le kb ka
          dsimp only at this ⊢
          omega
        · have e1 := swap_bef (os := os2) T.p2 S2 (T.lt a han) (T.lt b hbn) hsn
          have e2 := swap_aft (os := os2) T.p2 S2 (T.lt a han) (T.lt b hbn) hsn
          have hsp : splB os2 S2 (σ b, σ a) = true := by
            unfold splB
            rw [Bool.and_eq_true, decide_eq_true_eq, decide_eq_true_eq]
            dsimp only
            rw [e1, e2]
            exact ⟨na, nb⟩
          refine Nat.le_trans (fold_hit os2 n S2 hsp _ _ (pairs_has hlt (T.lt a han))) ?_
          rw [e1, e2, mxT_swap]
          have := mxT_le kb ka
          dsimp only at this ⊢
          omega
end
theorem needs_turn {n : Nat} {σ τ : Nat → Nat} {p x : Prs} (T : TurnP n σ τ p x) (hv : p.valid = true) (hx : x.valid = true) : needsE x = needsE p := by
  have l1 := orders_few hv
  have l2 := orders_few hx
  have hT : Tos n σ τ (ordersL p) (ordersL x) := by
    refine ⟨by omega, by omega, fun o ho => ?_, fun o ho => ?_, orders_nodup, orders_nodup, fun o ho => turn_orders T hv hx ho, fun o ho => turn_orders T.symm hx hv ho, fun o ho => turnO_turnO T ho, fun o ho => turnO_turnO T.symm ho, T.lt, T.tl, T.back, T.fore⟩
    · have := (orders_iff.1 ho).1; rw [T.np] at this; exact this
    · have := (orders_iff.1 ho).1; rw [T.nx] at this; exact this
  have hl := orders_turn T hv hx
  have hI : Im n σ (ordersL p) (ordersL x) (allS (ordersL p).length) (allS (ordersL x).length) := by
    refine ⟨allS_lt (by omega), allS_lt (by omega), fun i h => ?_, fun i h => ?_, fun i j hi hj _ => ?_⟩
    · rw [all_bit] at h; simpa using h
    · rw [all_bit] at h; simpa using h
    · rw [all_bit, all_bit]; simp [hi, hj]
  have h1 := needV_turn hT _ _ _ (Nat.le_refl _) hI
  have h2 := needV_turn hT.symm _ _ _ (Nat.le_refl _) (hI.symm hT)
  have hE : ordersE x = ordersE p := by
    unfold ordersE
    rw [hv, hx]
    cases e : ordersL p with
    | nil =>
      rw [e] at hl
      have : ordersL x = [] := List.eq_nil_of_length_eq_zero hl
      rw [this]
    | cons a r =>
      cases e2 : ordersL x with
      | nil => rw [e, e2] at hl; simp at hl
      | cons b s => rfl
  unfold needsE
  rw [hE, T.np, T.nx, Nat.le_antisymm h1 h2]
end Go.Proofs.Ytnfhlbmapfoifaa

namespace Go.Proofs.Ytnfhlbmapfoifaa
open Go.RowKit
set_option linter.unusedVariables false
set_option linter.unusedSimpArgs false

/-- A list of numbers in a block of its own, from B on. -/
def InRow (B : Nat) (f : Option Addr) (l : List Int) (w : World) : Prop :=
  0 < l.length → ∃ (g : Nat) (cur : Array Value), f = some ⟨g, 0, none⟩ ∧ B ≤ g ∧ w.heap[g]? = some (.cells cur 3 (0, 0)) ∧ ∀ i, i < l.length → cur[i]? = some (.int .i64 (gi l i))
theorem InRow.mono {B : Nat} {f : Option Addr} {l : List Int} {w w' : World} (h : InRow B f l w) (hb : Below w.heap.size w w') : InRow B f l w' := fun h0 => by
  obtain ⟨g, cur, e, h1, h2, h3⟩ := h h0
  exact ⟨g, cur, e, h1, (hb.block _ (heap_lt h2)).trans h2, h3⟩
theorem InRow.ints {B : Nat} {f : Option Addr} {l : List Int} {w : World} (h : InRow B f l w) : IsInts w f l := fun i hi => by
  obtain ⟨g, cur, e, h1, h2, h3⟩ := h (by omega)
  exact ⟨g, 0, e, by rw [cell_of_heap h2, Nat.zero_add]; exact h3 i hi⟩
theorem InRow.own {B : Nat} {f : Option Addr} {c : Nat} {l : List Int} {w : World} (h : w.ownsRow B 3 1 (.slice f l.length c) l.length (l.map (Value.int .i64))) : InRow B f l w := fun h0 => by
  obtain ⟨g, c2, e, h1, h2, _, _, h5⟩ := own_cell h h0
  rcases h.2 with ⟨_, h6⟩ | ⟨g', cap, cur, e', _, h7, _⟩
  · omega
  · cases e
    cases e'
    refine ⟨g, cur, rfl, h1, h7, fun i hi => ?_⟩
    have := h5 i (.int .i64 (gi l i)) (by simp [gi, hi])
    rw [cell_of_heap h7] at this
    exact this
def RowO (B : Nat) (w : World) (x : List Int × Value) : Prop := w.ownsRow B 3 1 x.2 x.1.length (x.1.map (Value.int .i64))
theorem RowO.row {B : Nat} {w : World} {x : List Int × Value} (h : RowO B w x) {av : Option Addr} {cv : Nat} (e : x.2 = .slice av x.1.length cv) : InRow B av x.1 w := by
  unfold RowO at h
  rw [e] at h
  exact InRow.own h
theorem rows_own {w : World} {B n : Nat} {v : Value} {vs : List Value} {l : List (List Int)} (h : w.ownsRow B 76 1 v n vs) (hr : RowsOf w B vs l) (hn : l.length = n) : ∃ a cap, v = .slice a n cap ∧ n ≤ cap ∧ ∃ L : List (List Int × Value), L.map Prod.fst = l ∧ L.length = n ∧ IsRows w a L ∧ ∀ x ∈ L, RowO B w x := by
  obtain ⟨a, cap, rfl, hcap, _⟩ := own_slice h
  have hlen := hr.1
  have hL : (l.zip vs).length = n := by rw [List.length_zip]; omega
  refine ⟨a, cap, rfl, hcap, l.zip vs, ?_, hL, fun i hi => ?_, fun x hx => ?_⟩
  · exact List.map_fst_zip (by omega)
  · have hi' : i < l.length := by omega
    obtain ⟨vc, h1, h2⟩ := hr.2 i _ (List.getElem?_eq_getElem hi')
    obtain ⟨g, c, e, _, _, _, _, hc⟩ := own_cell h (by omega)
    cases e
    obtain ⟨av, cv, rfl, _⟩ := own_slice h2
    have hv : i < vs.length := by omega
    have e1 : (l.zip vs).getD i ([], undef) = (l[i], .slice av l[i].length cv) := by
      rw [List.getElem?_eq_getElem hv] at h1
      have h1' := Option.some.inj h1
      simp [List.getElem?_eq_getElem hi, h1']
    rw [e1]
    refine ⟨g, 0, rfl, ?_, av, cv, rfl, own_ints h2⟩
    rw [Nat.zero_add]
    exact hc i _ h1
  · obtain ⟨i, hi, rfl⟩ := List.mem_iff_getElem.1 hx
    have hi' : i < l.length := by omega
    obtain ⟨vc, h1, h2⟩ := hr.2 i _ (List.getElem?_eq_getElem hi')
    have hv : i < vs.length := by omega
    rw [List.getElem?_eq_getElem hv] at h1
    have h1' := Option.some.inj h1
    rw [List.getElem_zip, h1']
    exact h2
set_option maxRecDepth 100000 in
set_option maxHeartbeats 4000000 in
theorem fewest_own {p : Prs} {a : Option Addr} {cap : Nat} {w : World} (ha : IsPrts w a p.cards) (hn : p.cards.length ≤ 16) (hv : p.valid = true) :
    Calls Try.prog 28 #[p.v a cap] w fun e w' => ∃ av cv, e = .returned (.tuple #[.slice av (fewestW p).length cv, .int .i64 (origN (fewestW p)), .int .i64 0]) ∧ InRow w.heap.size av (fewestW p) w' ∧ Below w.heap.size w w' := by
  have hmf : ∀ (fn : Fn) (first cap : Array Value) (w : World), (Instr.makeFunc fn first cap).run Try.prog w = .ok (.func fn first cap) w := fun _ _ _ _ => rfl
  have cf77 : ∀ (args : Array Value) (w : World), (callFunc 77 args).run Try.prog w = .ok (.enter 77 args) w := fun args w => by simp [callFunc, Try.func77, Try.f77, go_sem]
  refine calls_of_wp_x Try.func28 rfl ?_
  simp only [Try.ntmps28, List.size_toArray, List.length_cons, List.length_nil, Nat.reduceAdd, Nat.reduceSub, Array.replicate_succ, Array.replicate_zero, List.push_toArray, List.append_toArray, List.nil_append, List.cons_append]
  have HC77 := Lib.hid cf77
  clear cf77
  go_wp2_with fail
  obtain ⟨W1, hW1⟩ : ∃ W1 : World, W1 = (w.alloc (.cells (p.cells a cap) 26)).alloc (.cells #[.int .i64 0] 29) := ⟨_, rfl⟩
  have hb1 : Below w.heap.size w W1 := by rw [hW1]; exact ((Below.refl _ w).alloc (Nat.le_refl _) _).alloc (by simp) _
  have hz1 : W1.heap.size = w.heap.size + 2 := by rw [hW1]; simp
  have q2 : W1.heap[w.heap.size + 1]? = some (.cells #[.int .i64 0] 29 (0, 0)) := by
    rw [hW1]
    have := World.alloc_heap_new (w.alloc (.cells (p.cells a cap) 26)) (.cells #[.int .i64 0] 29)
    rw [World.size_alloc] at this
    exact this
  have ha1 := ha.mono hb1
  rw [← hW1]
  clear hW1 ha
  refine (open_yes ha1 hn hv).mono ?_
  rintro e w2 ⟨bp, g, rfl, hbp, hP, hb2⟩
  have q2' := (hb2.block (w.heap.size + 1) (by omega)).trans q2
  have hB2 := hb1.trans (hb2.mono (by omega))
  have HZ : Hid (w.heap.size + 2 ≤ w2.heap.size) := by have := hb2.size; rw [Hid]; omega
  have HV := Lib.hid hv
  clear hb1 hz1 q2 ha1 hb2 hbp hv
  have HP := Lib.hid (And.intro hP (And.intro hB2 q2'))
  clear hP hB2 q2'
  go_wp2_with fail
  refine ways_any.mono ?_
  rintro e w3 ⟨rfl, rfl⟩
  have HQ : Hid (∃ w3 : World, w3 = w2.alloc (.cells #[.pointer (some ⟨bp, 0, none⟩)] 79)) := ⟨_, rfl⟩
  have hb3 : Below w2.heap.size w2 (w2.alloc (.cells #[.pointer (some ⟨bp, 0, none⟩)] 79)) := (Below.refl _ _).alloc (Nat.le_refl _) _
  have q3 := World.alloc_heap_new w2 (.cells #[.pointer (some ⟨bp, 0, none⟩)] 79)
  have hP3 := HP.out.1.mono hb3
  have hB3 : Below w.heap.size w _ := HP.out.2.1.trans (hb3.mono HP.out.2.1.size)
  have q2 := (hb3.block (w.heap.size + 1) (by have := HZ.out; omega)).trans HP.out.2.2
  have hz3 : w2.heap.size ≤ (w2.alloc (.cells #[.pointer (some ⟨bp, 0, none⟩)] 79)).heap.size := hb3.size
  have HP3 := Lib.hid (And.intro hP3 (And.intro q3 (And.intro hB3 (And.intro q2 hz3))))
  clear hb3 q3 hP3 hB3 q2 hz3 HP HQ
  revert HP3
  generalize (w2.alloc (.cells #[.pointer (some ⟨bp, 0, none⟩)] 79)) = w3
  intro HP3
  go_wp2_with fail
  refine (collect_any HV.out HP3.out.2.1 HP3.out.1 (ways_len HV.out)).mono ?_
  rintro e w4 ⟨v, vs, rfl, h1, h2, hb4⟩
  obtain ⟨al, cl, rfl, hcl, L, hL1, hL2, hL3, hL4⟩ := rows_own h1 h2 rfl
  have HR : Hid (∃ x0 L0, L = x0 :: L0 ∧ (∃ b off, al = some ⟨b, off, none⟩ ∧ w4.cell? ⟨b, off, none⟩ = some x0.2 ∧ RowV w4 x0 ∧ IsRows w4 (some ⟨b, off + 1, none⟩) L0) ∧ ∀ x ∈ x0 :: L0, RowO w3.heap.size w4 x) := by
    cases L with
    | nil => exact absurd (by rw [← hL1]; rfl) (ways_ne HV.out)
    | cons x0 L0 =>
      obtain ⟨b, off, rfl, k1, k2⟩ := hL3 0 (by simp)
      exact ⟨x0, L0, rfl, ⟨b, off, rfl, k1, k2, hL3.tail⟩, hL4⟩
  obtain ⟨x0, L0, rfl, ⟨b, off, rfl, k1, k2, k3⟩, hL5⟩ := HR.out
  clear HR hL3 h1 h2 hL4
  have hn5 : p.cards.length ≤ 5 := by
    have := HV.out
    unfold Prs.valid at this
    simp at this
    exact this.1.1.1
  have hall : ∀ x ∈ x0 :: L0, x.1.length = p.cards.length := fun x hx => (ways_all (by rw [← hL1]; exact List.mem_map_of_mem hx)).1
  have hfew : (leastP x0 L0).1 = fewestW p := by rw [leastP_fst]; unfold fewestW; rw [← hL1]; rfl
  have hN : L0.length + 1 = (waysL p).length := by rw [← hL2]; rfl
  have hNl := ways_len HV.out
  obtain ⟨at_, hat⟩ : ∃ at_ : Option Addr, (if cl = 1 then some (⟨b, off, none⟩ : Addr) else some ⟨b, off + 1, none⟩) = at_ := ⟨_, rfl⟩
  have k3' : IsRows w4 at_ L0 := by
    by_cases hc1 : cl = 1
    · intro i hi
      omega
    · rw [if_neg hc1] at hat
      rw [← hat]; exact k3
  have HL : Hid (∀ V, Below w4.heap.size w4 V → Calls Try.prog 54 #[.func (.func 55) #[] #[], x0.2, .slice at_ L0.length (cl - 1)] V fun e w' => e = .returned (leastP x0 L0).2 ∧ Below V.heap.size V w') := fun V hV =>
    (least_any (by omega) (hall x0 (by simp)) (fun x hx => hall x (by simp [hx])) (k2.mono hV) (k3'.mono hV) (by omega)).mono fun e w' h => ⟨h.1, by rw [← h.2]; exact Below.refl _ _⟩
  have hrow : RowV w4 (leastP x0 L0) := leastP_all (Q := RowV w4) L0 x0 k2 (fun x hx => by
    obtain ⟨i, hi, rfl⟩ := List.getElem_of_mem hx
    obtain ⟨_, _, _, _, k⟩ := k3 i hi
    have e : L0.getD i ([], undef) = L0[i] := by simp [hi]
    rw [e] at k
    exact k)
  have hown : RowO w3.heap.size w4 (leastP x0 L0) := leastP_all (Q := RowO w3.heap.size w4) L0 x0 (hL5 x0 (by simp)) (fun x hx => hL5 x (by simp [hx]))
  obtain ⟨av, cv, hvx, hints⟩ := hrow
  have hown := hown.row hvx
  clear hL5
  rw [hfew] at hvx hints hown
  have HOW := Lib.hid hown
  clear hown
  have hlen : (fewestW p).length ≤ 16 := by rw [← hfew, leastP_all (Q := fun x => x.1.length = p.cards.length) L0 x0 (hall x0 (by simp)) (fun x hx => hall x (by simp [hx]))]; omega
  have HK1 := Lib.hid k1
  have HB4 := Lib.hid (And.intro hb4 (And.intro hints (And.intro hlen (And.intro hvx hat))))
  have hcl' : L0.length + 1 ≤ cl := by omega
  have HCL := Lib.hid hcl'
  rw [← hN]
  clear k1 k2 k3 k3' hb4 hints hlen hvx hat hall hfew hN hNl hcl hcl' hL1 hL2 hn5
  go_wp2_with fail
  refine few3 HK1 HCL.out HB4.out.2.2.2.2 HL ?_
  intro x12 x13 x14 x15 x16 x17 x6 w5 hb5 e12 e13 e14 e15 e16 e17 e6
  clear e12 e13 e14 e15 e16 e17
  rw [HB4.out.2.2.2.1] at e6
  subst e6
  have hi5 := HB4.out.2.1.mono hb5
  have q5 : w5.heap[w.heap.size + 1]? = some (.cells #[.int .i64 0] 29 (0, 0)) :=
    (hb5.block _ (by have := HB4.out.1.size; have := HP3.out.2.2.2.2; have := HZ.out; omega)).trans ((HB4.out.1.block _ (by have := HP3.out.2.2.2.2; have := HZ.out; omega)).trans HP3.out.2.2.2.1)
  have hB5 : Below w.heap.size w w5 := (HP3.out.2.2.1.trans (HB4.out.1.mono HP3.out.2.2.1.size)).trans (hb5.mono (by have := HB4.out.1.size; have := HP3.out.2.2.1.size; omega))
  have HB56 : Hid (Below w4.heap.size w4 w5) := hb5
  have H5 := Lib.hid (And.intro hi5 (And.intro q5 hB5))
  have c5 : w5.cell? ⟨w.heap.size + 1, 0, none⟩ = some (.int .i64 0) := by rw [cell_of_heap q5]; rfl
  have f5 : w5.frozen? ⟨w.heap.size + 1, 0, none⟩ = false := frozen_of_heap q5
  clear hi5 q5 hB5 hb5
  go_wp2_with fail
  refine (originals_any HB4.out.2.2.1 H5.out.1).mono ?_
  rintro e w6 ⟨rfl, rfl⟩
  go_wp2_with fail
  have hcell := World.cell?_setCell_same w5 ⟨w.heap.size + 1, 0, none⟩ (.int .i64 0) c5
  have hb6 : Below w5.heap.size w5 w5 := Below.refl _ _
  have HO5 := HOW.out.mono HB56.out
  refine ⟨[], _, rfl, leaves_ok (recov77_ok _ _) HC77.out (res_ttc rfl _ rfl hcell) ⟨av, cv, rfl, fun h0 => ?_, H5.out.2.2.setCell (by show w.heap.size ≤ w.heap.size + 1; omega) _⟩⟩
  obtain ⟨g, cur, e1, e2, e3, e4⟩ := HO5 h0
  have hz := HP3.out.2.2.2.2
  have hz2 := HZ.out
  exact ⟨g, cur, e1, by omega, (Below.heap_setCell _ _ _ _ (show g ≠ w.heap.size + 1 by omega)).trans e3, e4⟩
theorem number46 {w : World} {b5 bn c n v : Nat} (h5 : w.cell? ⟨b5, 0, none⟩ = some (.int .u8 (c : Int))) (hn : w.cell? ⟨bn, 0, none⟩ = some (.int .i64 (n : Int))) (hc : c ≤ 255) (hn0 : 0 < n) (hn6 : n ≤ 16) (hv : v ≤ 16) :
    Calls Try.prog 46 #[.int .i64 (v : Int), .pointer (some ⟨b5, 0, none⟩), .pointer (some ⟨bn, 0, none⟩)] w fun e w' => e = .returned (.int .i64 (((v + c) % n : Nat) : Int)) ∧ w = w' := by
  have y0 : IntKind.i64.wrap (c : Int) = (c : Int) := IntWalk.i64_in _ (by omega)
  have y1 : IntKind.i64.wrap ((v : Int) + (c : Int)) = (v : Int) + (c : Int) := IntWalk.i64_in _ (by omega)
  have y2 : ((v : Int) + (c : Int)).tmod (n : Int) = (((v + c) % n : Nat) : Int) := by rw [Int.tmod_eq_emod_of_nonneg (by omega)]; simp
  have y3 : ¬ n = 0 := by omega
  go_enter Try.func46, Try.ntmps46
  go_wp2
  go_ret
  exact ⟨rfl, rfl⟩
/-- Can two cards differ by what a copy loses, both ways? -/
structure Wide (p : Prs) (a b : Nat) : Prop where
  s1 : p.llo ≤ (gp p.cards a).shi - (gp p.cards b).slo
  s2 : p.llo ≤ (gp p.cards b).shi - (gp p.cards a).slo
  w1 : p.olo ≤ (gp p.cards a).whi - (gp p.cards b).wlo
  w2 : p.olo ≤ (gp p.cards b).whi - (gp p.cards a).wlo
theorem both_step {p : Prs} (hv : p.valid = true) {i m : Nat} (h : isWayB (bothP p i m) [-1, 0] = true) (what : Bool) : (p.by_ what).1 ≤ ((gp p.cards m).of what).2 - ((gp p.cards i).of what).1 := by
  obtain ⟨_, h2, h3⟩ := way_parts h
  have hg : GoodW (bothP p i m).cards.length [-1, 0] := ⟨rfl, fun y hy => by
    have : (bothP p i m).cards.length = 2 := rfl
    rw [this]
    simp at hy
    omega⟩
  have hb : ((bothP p i m).by_ what).1 ≤ ((bothP p i m).by_ what).2 := by
    obtain ⟨_, _, p1, p2⟩ := valid_parts hv
    cases what
    · have : 0 ≤ p.llo ∧ p.llo ≤ p.lhi ∧ p.lhi ≤ 16384 := by simpa [spanOk, and_assoc] using p1
      exact this.2.1
    · have : 0 ≤ p.olo ∧ p.olo ≤ p.ohi ∧ p.ohi ≤ 16384 := by simpa [spanOk, and_assoc] using p2
      exact this.2.1
  obtain ⟨v, A⟩ := asg_can hg h2 hb (h3 what)
  have a0 := (A.own 0 (by decide)).2
  have a1 := (A.own 1 (by decide)).1
  have st := (A.step 1 (by decide) (by decide)).1
  have e0 : gp (bothP p i m).cards 0 = gp p.cards m := rfl
  have e1 : gp (bothP p i m).cards 1 = gp p.cards i := rfl
  have e2 : (gi [-1, 0] 1).toNat = 0 := rfl
  have e3 : (bothP p i m).by_ what = p.by_ what := rfl
  rw [e0] at a0
  rw [e1] at a1
  rw [e2, e3] at st
  omega
theorem wide_law {p : Prs} (hv : p.valid = true) {i m : Nat} (h1 : isWayB (bothP p i m) [-1, 0] = true) (h2 : isWayB (bothP p m i) [-1, 0] = true) : Wide p i m :=
  ⟨both_step hv h2 false, both_step hv h1 false, both_step hv h2 true, both_step hv h1 true⟩
end Go.Proofs.Ytnfhlbmapfoifaa

