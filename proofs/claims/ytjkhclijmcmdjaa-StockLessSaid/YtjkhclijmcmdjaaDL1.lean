/- Two lists of formes that grow; the drawn region of StockLess. What the laws need to know of the cheapest plan: plain law. One sheet, one forme less than the cheapest plan: plain law. StockLess' walk. The row's last step where the call leaves a world of which only what lay there before is known. Presses and formes that are handed in, opened. -/
import Derived.Test.YtjkhclijmcmdjaaC15
import Derived.Below
import Derived.ChangeSame
import Derived.ProofKit
import Derived.Test.YtjkhclijmcmdjaaProg
import Derived.Deep.Slices
import Derived.Deep.Fields
import Derived.Lib.SmallJoins
import Derived.Carry
import Derived.OpenShut
namespace Go.Proofs.Ytjkhclijmcmdjaa
open Go.RowKit
set_option linter.unusedVariables false
set_option linter.unusedSimpArgs false
/-- One forme more in a list of one's own; what lies elsewhere stays. -/
theorem FmsI.more2 {W w : World} {l : List Fme} {r : Row} {f : Fme} {ax : Option Addr} {cx ms : Nat} (h : FmsI W l (.slice r.1 l.length r.2) w) (hl : l.length ≤ 1000) (hm : w.heap[ms]? = some (.cells #[.slice ax f.slots.length cx, .int .i64 f.times] 29 (0, 0))) (hs : IsInts W ax f.slots) :
    ∃ (r' : Row) (w' : World), (Builtin.append_ #[30, 30] 30 #[.slice r.1 l.length r.2, .slice (some ⟨ms, 0, none⟩) 1 1]).run Try.prog w = .ok (.slice r'.1 (l.length + 1) r'.2) w' ∧ FmsI W (l ++ [f]) (.slice r'.1 (l ++ [f]).length r'.2) w' ∧ w.grownBy w' (Value.slice r.1 l.length r.2).ownBlock ∧
      ((Value.slice r'.1 (l ++ [f]).length r'.2).ownBlock = (Value.slice r.1 l.length r.2).ownBlock ∨ (Value.slice r'.1 (l ++ [f]).length r'.2).ownBlock = some w.heap.size) := by
  obtain ⟨h0, rs, h1, h2, h3⟩ := h
  obtain ⟨i0, hi0, hz0, hz1, hz2⟩ := info_parts infoF
  obtain ⟨v', w', hr, hn, hg, hor⟩ := append_rows_at (P := Try.prog) (w := w) W.heap.size 30 30 29 i0 _ 2 32 Try.underlying30 hi0 hz0 hz1 hz2 rfl (by decide) _ l.length _ h2 (some ⟨ms, 0, none⟩) 1 1 [.slice ax f.slots.length cx, .int .i64 f.times] rfl
    (fun _ => ⟨_, rfl, fun j u hj => by
      have e : ((⟨ms, 0, none⟩ : Addr).add j) = ⟨ms, j, none⟩ := by unfold Addr.add; split <;> simp_all
      rw [e, cell_of_heap hm]
      rw [← hj]
      simp⟩) (by intro u hu; simp at hu; rcases hu with rfl | rfl <;> rfl) (by simp [maxLen]; omega) (by omega) h0.size
  obtain ⟨a', c', rfl, _⟩ := own_slice hn
  have e1 : (l ++ [f]).length = l.length + 1 := by simp
  refine ⟨(a', c'), w', hr, ⟨h0.grown hg h0.size (fun k hk => (h2.lt k hk).1), rs ++ [(ax, cx)], by simp [h1], ?_, fun i r hi => ?_⟩, hg, by rw [e1]; exact hor⟩
  · rw [fmC_snoc l rs f (ax, cx) h1, e1]
    exact hn
  · rcases Nat.lt_trichotomy i rs.length with hj | hj | hj
    · rw [List.getElem?_append_left hj] at hi
      have e : gf (l ++ [f]) i = gf l i := by unfold gf; rw [List.getD_eq_getElem?_getD, List.getD_eq_getElem?_getD, List.getElem?_append_left (by omega)]
      rw [e]
      exact h3 i r hi
    · subst hj
      simp at hi
      subst hi
      have e : gf (l ++ [f]) rs.length = f := by unfold gf; rw [List.getD_eq_getElem?_getD, h1]; simp
      rw [e]
      exact hs
    · rw [List.getElem?_eq_none (by simp; omega)] at hi
      cases hi
theorem FmsI.kept {W w w' : World} {l : List Fme} {r : Row} {v : Value} (h : FmsI W l (.slice r.1 l.length r.2) w) (hg : w.grownBy w' v.ownBlock) (hv : ∀ k, v.ownBlock = some k → W.heap.size ≤ k) (hne : ∀ k, (Value.slice r.1 l.length r.2).ownBlock = some k → v.ownBlock ≠ some k) : FmsI W l (.slice r.1 l.length r.2) w' := by
  obtain ⟨h0, rs, h1, h2, h3⟩ := h
  refine ⟨h0.grown hg h0.size hv, rs, h1, h2.kept hg ?_, h3⟩
  cases e : (Value.slice r.1 l.length r.2).ownBlock with
  | none => exact .inl rfl
  | some k => exact .inr fun e2 => hne k e (by rw [← e2])
theorem FmsI.lt {W w : World} {l : List Fme} {v : Value} (h : FmsI W l v w) : ∀ k, v.ownBlock = some k → W.heap.size ≤ k ∧ k < w.heap.size := fun k hk => by
  obtain ⟨h0, rs, h1, h2, h3⟩ := h
  exact h2.lt k hk
/-- Two lists that grow, each in a row of its own. -/
structure Two (W : World) (la lb : List Fme) (ra rb : Row) (w : World) : Prop where
  a : FmsI W la (.slice ra.1 la.length ra.2) w
  b : FmsI W lb (.slice rb.1 lb.length rb.2) w
  ne : ∀ k, (Value.slice ra.1 la.length ra.2).ownBlock = some k → (Value.slice rb.1 lb.length rb.2).ownBlock ≠ some k
theorem Two.below {W : World} {la lb : List Fme} {ra rb : Row} {w w' : World} (h : Two W la lb ra rb w) (hb : Below w.heap.size w w') : Two W la lb ra rb w' := ⟨h.a.below hb, h.b.below hb, h.ne⟩
/-- Does a block lie in neither of the rows? -/
def NotIn (la lb : List Fme) (ra rb : Row) (k : Nat) : Prop := (Value.slice ra.1 la.length ra.2).ownBlock ≠ some k ∧ (Value.slice rb.1 lb.length rb.2).ownBlock ≠ some k
theorem Two.notin {W : World} {la lb : List Fme} {ra rb : Row} {w : World} (h : Two W la lb ra rb w) {k : Nat} (hk : w.heap.size ≤ k) : NotIn la lb ra rb k :=
  ⟨fun e => by have := (h.a.lt k e).2; omega, fun e => by have := (h.b.lt k e).2; omega⟩
theorem Two.moreA {W w : World} {la lb : List Fme} {ra rb : Row} {f : Fme} {ax : Option Addr} {cx ms : Nat} (h : Two W la lb ra rb w) (hl : la.length ≤ 1000) (hm : w.heap[ms]? = some (.cells #[.slice ax f.slots.length cx, .int .i64 f.times] 29 (0, 0))) (hs : IsInts W ax f.slots) :
    ∃ (r' : Row) (w' : World), (Builtin.append_ #[30, 30] 30 #[.slice ra.1 la.length ra.2, .slice (some ⟨ms, 0, none⟩) 1 1]).run Try.prog w = .ok (.slice r'.1 (la.length + 1) r'.2) w' ∧ Two W (la ++ [f]) lb r' rb w' ∧ (∀ k, k < w.heap.size → NotIn la lb ra rb k → w'.heap[k]? = w.heap[k]? ∧ NotIn (la ++ [f]) lb r' rb k) ∧ w.heap.size ≤ w'.heap.size := by
  obtain ⟨r', w', hr, hf, hg, hor⟩ := h.a.more2 hl hm hs
  refine ⟨r', w', hr, ⟨hf, h.b.kept hg (fun k hk => (h.a.lt k hk).1) (fun k hk e => h.ne k e hk), fun k hk e => ?_⟩, fun k hk hn => ⟨hg.block k hk fun e => hn.1 (e ▸ rfl), fun e => ?_, hn.2⟩, hg.size⟩
  · rcases hor with h2 | h2
    · rw [h2] at hk; exact h.ne k hk e
    · rw [h2] at hk; cases hk
      have := (h.b.lt _ e).2
      omega
  · rcases hor with h2 | h2
    · rw [h2] at e; exact hn.1 e
    · rw [h2] at e; cases e; omega
theorem Two.moreB {W w : World} {la lb : List Fme} {ra rb : Row} {f : Fme} {ax : Option Addr} {cx ms : Nat} (h : Two W la lb ra rb w) (hl : lb.length ≤ 1000) (hm : w.heap[ms]? = some (.cells #[.slice ax f.slots.length cx, .int .i64 f.times] 29 (0, 0))) (hs : IsInts W ax f.slots) :
    ∃ (r' : Row) (w' : World), (Builtin.append_ #[30, 30] 30 #[.slice rb.1 lb.length rb.2, .slice (some ⟨ms, 0, none⟩) 1 1]).run Try.prog w = .ok (.slice r'.1 (lb.length + 1) r'.2) w' ∧ Two W la (lb ++ [f]) ra r' w' ∧ (∀ k, k < w.heap.size → NotIn la lb ra rb k → w'.heap[k]? = w.heap[k]? ∧ NotIn la (lb ++ [f]) ra r' k) ∧ w.heap.size ≤ w'.heap.size := by
  have h' : Two W lb la rb ra w := ⟨h.b, h.a, fun k hk e => h.ne k e hk⟩
  obtain ⟨r', w', hr, ht, hk, hz⟩ := h'.moreA hl hm hs
  exact ⟨r', w', hr, ⟨ht.b, ht.a, fun k hk e => ht.ne k e hk⟩, fun k hk2 hn => by
    obtain ⟨e, hn2⟩ := hk k hk2 ⟨hn.2, hn.1⟩
    exact ⟨e, hn2.2, hn2.1⟩, hz⟩
theorem Two.start (W : World) : Two W [] [] (none, 0) (none, 0) W := ⟨FmsI.nil W, FmsI.nil W, fun k hk => by cases hk⟩
structure les14F (ra : Option Addr × Nat) (rb : Option Addr × Nat) (na : Nat) (nb : Nat) (bf : Nat) (fa : Option Addr) (nf : Nat) (fc : Nat) (ft : Int) (S0 : Bool → Nat → World → Prop) (S1 : Bool → Nat → Nat → World → Prop) (S2 : Bool → Nat → Nat → Option Addr × Nat → World → Prop) (S3 : Bool → Nat → Nat → Option Addr × Nat → Option Addr × Nat → World → Prop) (d : Nat → Bool) (x60 x61 x62 x63 x64 x65 x66 x67 x7 x8 : Value) (ms : Nat) (g1 : Nat) (r1 : Option Addr × Nat) (r2 : Option Addr × Nat) (w : World) : Prop where
  q2 : d 2 = true → d 1 = true
  q3 : d 3 = true → d 0 = true ∧ d 2 = true
  q6 : d 6 = true → d 5 = true
  q7 : d 7 = true → d 3 = true ∧ d 4 = true ∧ d 6 = true
  q8 : d 8 = true → d 0 = true ∧ d 1 = true ∧ d 2 = true ∧ d 3 = true ∧ d 7 = true
  q9 : d 9 = true → d 0 = true ∧ d 1 = true ∧ d 2 = true ∧ d 3 = true ∧ d 4 = true ∧ d 5 = true ∧ d 6 = true ∧ d 7 = true ∧ d 8 = true
  f0 : d 0 = true → x60 = .slice ra.1 na ra.2
  f1 : d 1 = true → x61 = .agg #[.slice fa nf fc, .int .i64 ft]
  f2 : d 2 = true → x62 = .slice (some ⟨g1, 0, none⟩) 1 1
  f3 : d 3 = true → x63 = .slice r1.1 (na + 1) r1.2
  f4 : d 4 = true → x64 = .slice rb.1 nb rb.2
  f5 : d 5 = true → x65 = .agg #[.slice fa nf fc, .int .i64 ft]
  f6 : d 6 = true → x66 = .slice (some ⟨ms, 0, none⟩) 1 1
  f7 : d 7 = true → x67 = .slice r2.1 (nb + 1) r2.2
  f8 : d 8 = true → x7 = .slice r1.1 (na + 1) r1.2
  f9 : d 9 = true → x8 = .slice r2.1 (nb + 1) r2.2
  g8 : d 8 = false → .slice ra.1 na ra.2 = x7
  g9 : d 9 = false → .slice rb.1 nb rb.2 = x8
  st0 : d 2 = false → S0 (d 6) ms w
  st1 : d 2 = true → d 3 = false → S1 (d 6) ms g1 w
  st2 : d 3 = true → d 7 = false → S2 (d 6) ms g1 r1 w
  st3 : d 7 = true → S3 (d 6) ms g1 r1 r2 w
  mz : d 6 = false → ms = 0
noncomputable def les14C : Code := (Try.f8.body.bind (regionAt 14)).getD .skip
set_option maxRecDepth 100000 in
set_option maxHeartbeats 4000000 in
theorem les14 {ra : Option Addr × Nat} {rb : Option Addr × Nat} {na : Nat} {nb : Nat} {bf : Nat} {fa : Option Addr} {nf : Nat} {fc : Nat} {ft : Int} {S0 : Bool → Nat → World → Prop} {S1 : Bool → Nat → Nat → World → Prop} {S2 : Bool → Nat → Nat → Option Addr × Nat → World → Prop} {S3 : Bool → Nat → Nat → Option Addr × Nat → Option Addr × Nat → World → Prop} {Q : Exit → Act → World → Prop} {W1 : World} (h0 : S0 false 0 W1.drew)
    (kl1 : Hid (∀ (fs : Bool) (ms : Nat) (w : World), (S0 fs ms w) → w.cell? ⟨bf, 0, none⟩ = some (.slice fa nf fc) ∧ w.cell? ⟨bf, 1, none⟩ = some (.int .i64 ft)))
    (kc2 : Hid (∀ (fs : Bool) (ms : Nat) (w : World), S0 fs ms w → S1 fs ms w.heap.size (w.alloc (.cells #[.slice fa nf fc, .int .i64 ft] 29))))
    (kc3 : Hid (∀ (fs : Bool) (ms : Nat) (g1 : Nat) (w : World), S1 fs ms g1 w → ∃ (r1 : Option Addr × Nat) (w' : World), (Builtin.append_ #[30, 30] 30 #[.slice ra.1 na ra.2, .slice (some ⟨g1, 0, none⟩) 1 1]).run Try.prog w = .ok (.slice r1.1 (na + 1) r1.2) w' ∧ S2 fs ms g1 r1 w'))
    (kl5 : Hid (∀ (fs : Bool) (ms : Nat) (g1 : Nat) (r1 : Option Addr × Nat) (w : World), (S0 fs ms w ∨ S1 fs ms g1 w ∨ S2 fs ms g1 r1 w) → w.cell? ⟨bf, 0, none⟩ = some (.slice fa nf fc) ∧ w.cell? ⟨bf, 1, none⟩ = some (.int .i64 ft)))
    (ks0 : Hid (∀ (w : World), S0 false 0 w → S0 true w.heap.size (w.alloc (.cells #[.slice fa nf fc, .int .i64 ft] 29))))
    (ks1 : Hid (∀ (g1 : Nat) (w : World), S1 false 0 g1 w → S1 true w.heap.size g1 (w.alloc (.cells #[.slice fa nf fc, .int .i64 ft] 29))))
    (ks2 : Hid (∀ (g1 : Nat) (r1 : Option Addr × Nat) (w : World), S2 false 0 g1 r1 w → S2 true w.heap.size g1 r1 (w.alloc (.cells #[.slice fa nf fc, .int .i64 ft] 29))))
    (kc7 : Hid (∀ (ms : Nat) (g1 : Nat) (r1 : Option Addr × Nat) (w : World), S2 true ms g1 r1 w → ∃ (r2 : Option Addr × Nat) (w' : World), (Builtin.append_ #[30, 30] 30 #[.slice rb.1 nb rb.2, .slice (some ⟨ms, 0, none⟩) 1 1]).run Try.prog w = .ok (.slice r2.1 (nb + 1) r2.2) w' ∧ S3 true ms g1 r1 r2 w'))
    {s0 s1 s2 s3 s4 s5 s6 s9 s11 s12 s13 s14 s15 s16 s17 s18 s19 s20 s21 s22 s23 s24 s25 s26 s27 s28 s29 s30 s31 s32 s33 s34 s35 s36 s37 s38 s39 s40 s41 s42 s43 s44 s45 s46 s47 s48 s49 s50 s51 s52 s53 s54 s55 s56 s57 s58 s59 s60 s61 s62 s63 s64 s65 s66 s67 s68 s69 s70 s71 s72 s73 s74 s75 s76 s77 s78 s79 s80 s81 s82 s83 s84 s85 s86 s87 s88 s89 s90 s91 s92 s93 s94 s95 s96 s97 s98 s99 s100 s101 s102 s103 s104 s105 s106 s107 s108 : Value} {dd : List Deferred}
    (hQ : ∀ (ms : Nat) (g1 : Nat) (r1 : Option Addr × Nat) (r2 : Option Addr × Nat) (w' : World), S3 true ms g1 r1 r2 w' → Q .normal { tmps := List.toArray (s0 :: s1 :: s2 :: s3 :: s4 :: s5 :: s6 :: .slice r1.1 (na + 1) r1.2 :: .slice r2.1 (nb + 1) r2.2 :: s9 :: .pointer (some ⟨bf, 0, none⟩) :: s11 :: s12 :: s13 :: s14 :: s15 :: s16 :: s17 :: s18 :: s19 :: s20 :: s21 :: s22 :: s23 :: s24 :: s25 :: s26 :: s27 :: s28 :: s29 :: s30 :: s31 :: s32 :: s33 :: s34 :: s35 :: s36 :: s37 :: s38 :: s39 :: s40 :: s41 :: s42 :: s43 :: s44 :: s45 :: s46 :: s47 :: s48 :: s49 :: s50 :: s51 :: s52 :: s53 :: s54 :: s55 :: s56 :: s57 :: s58 :: s59 :: .slice ra.1 na ra.2 :: .agg #[.slice fa nf fc, .int .i64 ft] :: .slice (some ⟨g1, 0, none⟩) 1 1 :: .slice r1.1 (na + 1) r1.2 :: .slice rb.1 nb rb.2 :: .agg #[.slice fa nf fc, .int .i64 ft] :: .slice (some ⟨ms, 0, none⟩) 1 1 :: .slice r2.1 (nb + 1) r2.2 :: s68 :: s69 :: s70 :: s71 :: s72 :: s73 :: s74 :: s75 :: s76 :: s77 :: s78 :: s79 :: s80 :: s81 :: s82 :: s83 :: s84 :: s85 :: s86 :: s87 :: s88 :: s89 :: s90 :: s91 :: s92 :: s93 :: s94 :: s95 :: s96 :: s97 :: s98 :: s99 :: s100 :: s101 :: s102 :: s103 :: s104 :: s105 :: s106 :: s107 :: s108 :: []), defers := dd } w') :
    Code.wpIn (wideAt none) 0 Try.prog les14C Q { tmps := List.toArray (s0 :: s1 :: s2 :: s3 :: s4 :: s5 :: s6 :: .slice ra.1 na ra.2 :: .slice rb.1 nb rb.2 :: s9 :: .pointer (some ⟨bf, 0, none⟩) :: s11 :: s12 :: s13 :: s14 :: s15 :: s16 :: s17 :: s18 :: s19 :: s20 :: s21 :: s22 :: s23 :: s24 :: s25 :: s26 :: s27 :: s28 :: s29 :: s30 :: s31 :: s32 :: s33 :: s34 :: s35 :: s36 :: s37 :: s38 :: s39 :: s40 :: s41 :: s42 :: s43 :: s44 :: s45 :: s46 :: s47 :: s48 :: s49 :: s50 :: s51 :: s52 :: s53 :: s54 :: s55 :: s56 :: s57 :: s58 :: s59 :: s60 :: s61 :: s62 :: s63 :: s64 :: s65 :: s66 :: s67 :: s68 :: s69 :: s70 :: s71 :: s72 :: s73 :: s74 :: s75 :: s76 :: s77 :: s78 :: s79 :: s80 :: s81 :: s82 :: s83 :: s84 :: s85 :: s86 :: s87 :: s88 :: s89 :: s90 :: s91 :: s92 :: s93 :: s94 :: s95 :: s96 :: s97 :: s98 :: s99 :: s100 :: s101 :: s102 :: s103 :: s104 :: s105 :: s106 :: s107 :: s108 :: []), defers := dd } W1 := by
  have HQ := Lib.hid hQ
  clear hQ
  conv => arg 4; whnf
  refine wpIn_region_invG mixed (by kernel_rfl) (fun d_ a_ w' => ∃ (x60 : Value) (x61 : Value) (x62 : Value) (x63 : Value) (x64 : Value) (x65 : Value) (x66 : Value) (x67 : Value) (x7 : Value) (x8 : Value) (ms : Nat) (g1 : Nat) (r1 : Option Addr × Nat) (r2 : Option Addr × Nat), a_ = { tmps := List.toArray (s0 :: s1 :: s2 :: s3 :: s4 :: s5 :: s6 :: x7 :: x8 :: s9 :: .pointer (some ⟨bf, 0, none⟩) :: s11 :: s12 :: s13 :: s14 :: s15 :: s16 :: s17 :: s18 :: s19 :: s20 :: s21 :: s22 :: s23 :: s24 :: s25 :: s26 :: s27 :: s28 :: s29 :: s30 :: s31 :: s32 :: s33 :: s34 :: s35 :: s36 :: s37 :: s38 :: s39 :: s40 :: s41 :: s42 :: s43 :: s44 :: s45 :: s46 :: s47 :: s48 :: s49 :: s50 :: s51 :: s52 :: s53 :: s54 :: s55 :: s56 :: s57 :: s58 :: s59 :: x60 :: x61 :: x62 :: x63 :: x64 :: x65 :: x66 :: x67 :: s68 :: s69 :: s70 :: s71 :: s72 :: s73 :: s74 :: s75 :: s76 :: s77 :: s78 :: s79 :: s80 :: s81 :: s82 :: s83 :: s84 :: s85 :: s86 :: s87 :: s88 :: s89 :: s90 :: s91 :: s92 :: s93 :: s94 :: s95 :: s96 :: s97 :: s98 :: s99 :: s100 :: s101 :: s102 :: s103 :: s104 :: s105 :: s106 :: s107 :: s108 :: []), defers := dd } ∧ les14F ra rb na nb bf fa nf fc ft S0 S1 S2 S3 d_ x60 x61 x62 x63 x64 x65 x66 x67 x7 x8 ms g1 r1 r2 w') ?_ ?_ ?_
  · refine ⟨s60, s61, s62, s63, s64, s65, s66, s67, (.slice ra.1 na ra.2), (.slice rb.1 nb rb.2), 0, 0, default, default, rfl, ?_⟩
    constructor <;> first | rfl | (intro _; rfl) | (intro h; cases h; done) | (intro _; exact h0) | exact h0
  · refine ⟨?_, ?_, ?_, ?_, ?_, ?_, ?_, ?_, ?_, ?_, trivial⟩
    all_goals
      rintro d_ a_ w1 K hd_ hdep ⟨x60, x61, x62, x63, x64, x65, x66, x67, x7, x8, ms, g1, r1, r2, rfl, F⟩ HK
      simp [Region.binds] at hdep
    · have n8_ : d_ 8 = false := by
        cases e_ : d_ 8 with
        | false => rfl
        | true => have h2 := (F.q8 e_).1; rw [show d_ 0 = false from hd_] at h2; cases h2
      have g8_ := F.g8 n8_
      subst g8_
      have HF : Hid (les14F ra rb na nb bf fa nf fc ft S0 S1 S2 S3 (upd d_ 0) (.slice ra.1 na ra.2) x61 x62 x63 x64 x65 x66 x67 (.slice ra.1 na ra.2) x8 ms g1 r1 r2 w1) := ⟨F.q2, fun h => ⟨rfl, (F.q3 h).2⟩, F.q6, F.q7, fun h => ⟨rfl, (F.q8 h).2.1, (F.q8 h).2.2.1, (F.q8 h).2.2.2.1, (F.q8 h).2.2.2.2⟩, fun h => ⟨rfl, (F.q9 h).2.1, (F.q9 h).2.2.1, (F.q9 h).2.2.2.1, (F.q9 h).2.2.2.2.1, (F.q9 h).2.2.2.2.2.1, (F.q9 h).2.2.2.2.2.2.1, (F.q9 h).2.2.2.2.2.2.2.1, (F.q9 h).2.2.2.2.2.2.2.2⟩, fun _ => rfl, F.f1, F.f2, F.f3, F.f4, F.f5, F.f6, F.f7, F.f8, F.f9, F.g8, F.g9, F.st0, F.st1, F.st2, F.st3, F.mz⟩
      clear F
      go_simp
      exact HK.out _ _ ⟨_, _, _, _, _, _, _, _, _, _, _, _, _, _, rfl, HF.out⟩
    · have hst : S0 (d_ 6) ms w1 := by
        have n_ : d_ 2 = false := by
          cases e_ : d_ 2 with
          | false => rfl
          | true => have h2 := (F.q2 e_); rw [show d_ 1 = false from hd_] at h2; cases h2
        exact (F.st0 n_)
      have kk := kl1.out (d_ 6) ms w1 hst
      obtain ⟨kk0, kk1⟩ := kk
      clear hst
      have HF : Hid (les14F ra rb na nb bf fa nf fc ft S0 S1 S2 S3 (upd d_ 1) x60 (.agg #[.slice fa nf fc, .int .i64 ft]) x62 x63 x64 x65 x66 x67 x7 x8 ms g1 r1 r2 w1) := ⟨fun h => rfl, F.q3, F.q6, F.q7, fun h => ⟨(F.q8 h).1, rfl, (F.q8 h).2.2.1, (F.q8 h).2.2.2.1, (F.q8 h).2.2.2.2⟩, fun h => ⟨(F.q9 h).1, rfl, (F.q9 h).2.2.1, (F.q9 h).2.2.2.1, (F.q9 h).2.2.2.2.1, (F.q9 h).2.2.2.2.2.1, (F.q9 h).2.2.2.2.2.2.1, (F.q9 h).2.2.2.2.2.2.2.1, (F.q9 h).2.2.2.2.2.2.2.2⟩, F.f0, fun _ => rfl, F.f2, F.f3, F.f4, F.f5, F.f6, F.f7, F.f8, F.f9, F.g8, F.g9, F.st0, F.st1, F.st2, F.st3, F.mz⟩
      clear F
      go_simp
      exact HK.out _ _ ⟨_, _, _, _, _, _, _, _, _, _, _, _, _, _, rfl, HF.out⟩
    · have hS := F.st0  hd_
      obtain rfl := F.f1 (by simp [hdep])
      have hres := kc2.out (d_ 6) ms w1 hS
      have HF : Hid (les14F ra rb na nb bf fa nf fc ft S0 S1 S2 S3 (upd d_ 2) x60 (.agg #[.slice fa nf fc, .int .i64 ft]) ((.slice (some ⟨w1.heap.size, 0, none⟩) 1 1)) x63 x64 x65 x66 x67 x7 x8 ms w1.heap.size r1 r2 (w1.alloc (.cells #[.slice fa nf fc, .int .i64 ft] 29))) := ⟨fun _ => (show _ from (by simp [hdep] : d_ 1 = true)), fun h => ⟨(F.q3 h).1, rfl⟩, F.q6, F.q7, fun h => ⟨(F.q8 h).1, (F.q8 h).2.1, rfl, (F.q8 h).2.2.2.1, (F.q8 h).2.2.2.2⟩, fun h => ⟨(F.q9 h).1, (F.q9 h).2.1, rfl, (F.q9 h).2.2.2.1, (F.q9 h).2.2.2.2.1, (F.q9 h).2.2.2.2.2.1, (F.q9 h).2.2.2.2.2.2.1, (F.q9 h).2.2.2.2.2.2.2.1, (F.q9 h).2.2.2.2.2.2.2.2⟩, F.f0, F.f1, fun _ => rfl, F.f3, F.f4, F.f5, F.f6, F.f7, F.f8, F.f9, F.g8, F.g9, fun h => (by simp [upd] at h), fun _ _ => hres, fun h _ => (by have h2 : d_ 2 = true := (F.q3 h).2; rw [show d_ 2 = false from hd_] at h2; cases h2), fun h => (by have h2 : d_ 2 = true := (F.q3 (F.q7 h).1).2; rw [show d_ 2 = false from hd_] at h2; cases h2), F.mz⟩
      clear F hS hres
      go_simp
      exact HK.out _ _ ⟨_, _, _, _, _, _, _, _, _, _, _, _, _, _, rfl, HF.out⟩
    · have hS := F.st1 (by simp [hdep] : d_ 2 = true) hd_
      obtain rfl := F.f0 (by simp [hdep])
      obtain rfl := F.f2 (by simp [hdep])
      obtain ⟨v_, w_, hr, hres⟩ := kc3.out (d_ 6) ms g1 w1 hS
      rw [if_pos (by rfl)]
      refine wpIn_append_run (.tmp 60) (.tmp 62) 30 rfl _ _ _ _ rfl rfl hr ?_
      exact HK.out _ _ ⟨_, _, _, _, _, _, _, _, _, _, ms, g1, v_, r2, rfl, ⟨F.q2, fun _ => ⟨(show _ from (by simp [hdep] : d_ 0 = true)), (show _ from (by simp [hdep] : d_ 2 = true))⟩, F.q6, fun h => ⟨rfl, (F.q7 h).2.1, (F.q7 h).2.2⟩, fun h => ⟨(F.q8 h).1, (F.q8 h).2.1, (F.q8 h).2.2.1, rfl, (F.q8 h).2.2.2.2⟩, fun h => ⟨(F.q9 h).1, (F.q9 h).2.1, (F.q9 h).2.2.1, rfl, (F.q9 h).2.2.2.2.1, (F.q9 h).2.2.2.2.2.1, (F.q9 h).2.2.2.2.2.2.1, (F.q9 h).2.2.2.2.2.2.2.1, (F.q9 h).2.2.2.2.2.2.2.2⟩, F.f0, F.f1, F.f2, fun _ => rfl, F.f4, F.f5, F.f6, F.f7, fun h => (by have h2 : d_ 3 = true := (F.q8 h).2.2.2.1; rw [show d_ 3 = false from hd_] at h2; cases h2), F.f9, F.g8, F.g9, fun h => (by have h2 : d_ 2 = false := h; rw [(by simp [hdep] : d_ 2 = true)] at h2; cases h2), fun _ h => (by simp [upd] at h), fun _ _ => hres, fun h => (by have h2 : d_ 3 = true := (F.q7 h).1; rw [show d_ 3 = false from hd_] at h2; cases h2), F.mz⟩⟩
    · have n9_ : d_ 9 = false := by
        cases e_ : d_ 9 with
        | false => rfl
        | true => have h2 := (F.q9 e_).2.2.2.2.1; rw [show d_ 4 = false from hd_] at h2; cases h2
      have g9_ := F.g9 n9_
      subst g9_
      have HF : Hid (les14F ra rb na nb bf fa nf fc ft S0 S1 S2 S3 (upd d_ 4) x60 x61 x62 x63 (.slice rb.1 nb rb.2) x65 x66 x67 x7 (.slice rb.1 nb rb.2) ms g1 r1 r2 w1) := ⟨F.q2, F.q3, F.q6, fun h => ⟨(F.q7 h).1, rfl, (F.q7 h).2.2⟩, F.q8, fun h => ⟨(F.q9 h).1, (F.q9 h).2.1, (F.q9 h).2.2.1, (F.q9 h).2.2.2.1, rfl, (F.q9 h).2.2.2.2.2.1, (F.q9 h).2.2.2.2.2.2.1, (F.q9 h).2.2.2.2.2.2.2.1, (F.q9 h).2.2.2.2.2.2.2.2⟩, F.f0, F.f1, F.f2, F.f3, fun _ => rfl, F.f5, F.f6, F.f7, F.f8, F.f9, F.g8, F.g9, F.st0, F.st1, F.st2, F.st3, F.mz⟩
      clear F
      go_simp
      exact HK.out _ _ ⟨_, _, _, _, _, _, _, _, _, _, _, _, _, _, rfl, HF.out⟩
    · have hst : S0 (d_ 6) ms w1 ∨ S1 (d_ 6) ms g1 w1 ∨ S2 (d_ 6) ms g1 r1 w1 := by
        cases e1 : d_ 2 with
        | false => exact .inl ((F.st0 e1))
        | true =>
          cases e2 : d_ 3 with
          | false => exact .inr (.inl ((F.st1 e1 e2)))
          | true =>
            have n_ : d_ 7 = false := by
              cases e_ : d_ 7 with
              | false => rfl
              | true => have h2 := (F.q6 (F.q7 e_).2.2); rw [show d_ 5 = false from hd_] at h2; cases h2
            exact .inr (.inr ((F.st2 e2 n_)))
      have kk := kl5.out (d_ 6) ms g1 r1 w1 hst
      obtain ⟨kk0, kk1⟩ := kk
      clear hst
      have HF : Hid (les14F ra rb na nb bf fa nf fc ft S0 S1 S2 S3 (upd d_ 5) x60 x61 x62 x63 x64 (.agg #[.slice fa nf fc, .int .i64 ft]) x66 x67 x7 x8 ms g1 r1 r2 w1) := ⟨F.q2, F.q3, fun h => rfl, F.q7, F.q8, fun h => ⟨(F.q9 h).1, (F.q9 h).2.1, (F.q9 h).2.2.1, (F.q9 h).2.2.2.1, (F.q9 h).2.2.2.2.1, rfl, (F.q9 h).2.2.2.2.2.2.1, (F.q9 h).2.2.2.2.2.2.2.1, (F.q9 h).2.2.2.2.2.2.2.2⟩, F.f0, F.f1, F.f2, F.f3, F.f4, fun _ => rfl, F.f6, F.f7, F.f8, F.f9, F.g8, F.g9, F.st0, F.st1, F.st2, F.st3, F.mz⟩
      clear F
      go_simp
      exact HK.out _ _ ⟨_, _, _, _, _, _, _, _, _, _, _, _, _, _, rfl, HF.out⟩
    · obtain rfl := F.f5 (by simp [hdep])
      have HF : Hid (les14F ra rb na nb bf fa nf fc ft S0 S1 S2 S3 (upd d_ 6) x60 x61 x62 x63 x64 (.agg #[.slice fa nf fc, .int .i64 ft]) (.slice (some ⟨w1.heap.size, 0, none⟩) 1 1) x67 x7 x8 w1.heap.size g1 r1 r2 (w1.alloc (.cells #[.slice fa nf fc, .int .i64 ft] 29))) := ⟨F.q2, F.q3, fun _ => (show _ from (by simp [hdep] : d_ 5 = true)), fun h => ⟨(F.q7 h).1, (F.q7 h).2.1, rfl⟩, F.q8, fun h => ⟨(F.q9 h).1, (F.q9 h).2.1, (F.q9 h).2.2.1, (F.q9 h).2.2.2.1, (F.q9 h).2.2.2.2.1, (F.q9 h).2.2.2.2.2.1, rfl, (F.q9 h).2.2.2.2.2.2.2.1, (F.q9 h).2.2.2.2.2.2.2.2⟩, F.f0, F.f1, F.f2, F.f3, F.f4, F.f5, fun _ => rfl, F.f7, F.f8, F.f9, F.g8, F.g9, fun b => ks0.out w1 (by have h := F.st0 b; rw [show d_ 6 = false from hd_, F.mz hd_] at h; exact h), fun a b => ks1.out g1 w1 (by have h := F.st1 a b; rw [show d_ 6 = false from hd_, F.mz hd_] at h; exact h), fun a b => ks2.out g1 r1 w1 (by have h := F.st2 a b; rw [show d_ 6 = false from hd_, F.mz hd_] at h; exact h), fun a => (by have h2 : d_ 6 = true := (F.q7 a).2.2; rw [show d_ 6 = false from hd_] at h2; cases h2), fun h => (by simp [upd] at h)⟩
      clear F
      go_simp
      exact HK.out _ _ ⟨_, _, _, _, _, _, _, _, _, _, _, _, _, _, rfl, HF.out⟩
    · have hS := F.st2 (by simp [hdep] : d_ 3 = true) hd_
      rw [show d_ 6 = true from (by simp [hdep] : d_ 6 = true)] at hS
      obtain rfl := F.f4 (by simp [hdep])
      obtain rfl := F.f6 (by simp [hdep])
      obtain ⟨v_, w_, hr, hres⟩ := kc7.out ms g1 r1 w1 hS
      rw [if_pos (by rfl)]
      refine wpIn_append_run (.tmp 64) (.tmp 66) 30 rfl _ _ _ _ rfl rfl hr ?_
      exact HK.out _ _ ⟨_, _, _, _, _, _, _, _, _, _, ms, g1, r1, v_, rfl, ⟨F.q2, F.q3, F.q6, fun _ => ⟨(show _ from (by simp [hdep] : d_ 3 = true)), (show _ from (by simp [hdep] : d_ 4 = true)), (show _ from (by simp [hdep] : d_ 6 = true))⟩, fun h => ⟨(F.q8 h).1, (F.q8 h).2.1, (F.q8 h).2.2.1, (F.q8 h).2.2.2.1, rfl⟩, fun h => ⟨(F.q9 h).1, (F.q9 h).2.1, (F.q9 h).2.2.1, (F.q9 h).2.2.2.1, (F.q9 h).2.2.2.2.1, (F.q9 h).2.2.2.2.2.1, (F.q9 h).2.2.2.2.2.2.1, rfl, (F.q9 h).2.2.2.2.2.2.2.2⟩, F.f0, F.f1, F.f2, F.f3, F.f4, F.f5, F.f6, fun _ => rfl, F.f8, fun h => (by have h2 : d_ 7 = true := (F.q9 h).2.2.2.2.2.2.2.1; rw [show d_ 7 = false from hd_] at h2; cases h2), F.g8, F.g9, fun h => (by have h2 : d_ 2 = false := h; rw [(F.q3 (by simp [hdep] : d_ 3 = true)).2] at h2; cases h2), fun _ h => (by have h2 : d_ 3 = false := h; rw [(by simp [hdep] : d_ 3 = true)] at h2; cases h2), fun _ h => (by simp [upd] at h), fun _ => (by rw [show upd d_ 7 6 = true from (by simp [hdep] : d_ 6 = true)]; exact hres), F.mz⟩⟩
    · obtain rfl := F.f3 (by simp [hdep])
      have HF : Hid (les14F ra rb na nb bf fa nf fc ft S0 S1 S2 S3 (upd d_ 8) x60 x61 x62 (.slice r1.1 (na + 1) r1.2) x64 x65 x66 x67 (.slice r1.1 (na + 1) r1.2) x8 ms g1 r1 r2 w1) := ⟨F.q2, F.q3, F.q6, F.q7, fun _ => ⟨(show _ from (by simp [hdep] : d_ 0 = true)), (show _ from (by simp [hdep] : d_ 1 = true)), (show _ from (by simp [hdep] : d_ 2 = true)), (show _ from (by simp [hdep] : d_ 3 = true)), (show _ from (by simp [hdep] : d_ 7 = true))⟩, fun h => ⟨(F.q9 h).1, (F.q9 h).2.1, (F.q9 h).2.2.1, (F.q9 h).2.2.2.1, (F.q9 h).2.2.2.2.1, (F.q9 h).2.2.2.2.2.1, (F.q9 h).2.2.2.2.2.2.1, (F.q9 h).2.2.2.2.2.2.2.1, rfl⟩, F.f0, F.f1, F.f2, F.f3, F.f4, F.f5, F.f6, F.f7, fun _ => rfl, F.f9, fun h => (by simp [upd] at h), F.g9, F.st0, F.st1, F.st2, F.st3, F.mz⟩
      clear F
      go_simp
      exact HK.out _ _ ⟨_, _, _, _, _, _, _, _, _, _, _, _, _, _, rfl, HF.out⟩
    · obtain rfl := F.f7 (by simp [hdep])
      have HF : Hid (les14F ra rb na nb bf fa nf fc ft S0 S1 S2 S3 (upd d_ 9) x60 x61 x62 x63 x64 x65 x66 (.slice r2.1 (nb + 1) r2.2) x7 (.slice r2.1 (nb + 1) r2.2) ms g1 r1 r2 w1) := ⟨F.q2, F.q3, F.q6, F.q7, F.q8, fun _ => ⟨(show _ from (by simp [hdep] : d_ 0 = true)), (show _ from (by simp [hdep] : d_ 1 = true)), (show _ from (by simp [hdep] : d_ 2 = true)), (show _ from (by simp [hdep] : d_ 3 = true)), (show _ from (by simp [hdep] : d_ 4 = true)), (show _ from (by simp [hdep] : d_ 5 = true)), (show _ from (by simp [hdep] : d_ 6 = true)), (show _ from (by simp [hdep] : d_ 7 = true)), (show _ from (by simp [hdep] : d_ 8 = true))⟩, F.f0, F.f1, F.f2, F.f3, F.f4, F.f5, F.f6, F.f7, F.f8, fun _ => rfl, F.g8, fun h => (by simp [upd] at h), F.st0, F.st1, F.st2, F.st3, F.mz⟩
      clear F
      go_simp
      exact HK.out _ _ ⟨_, _, _, _, _, _, _, _, _, _, _, _, _, _, rfl, HF.out⟩
  · rintro d_ a_ w1 hall ⟨x60, x61, x62, x63, x64, x65, x66, x67, x7, x8, ms, g1, r1, r2, rfl, F⟩
    have hall' : ∀ k, k < 10 → d_ k = true := hall
    obtain rfl := F.f0 (hall' 0 (by decide))
    obtain rfl := F.f1 (hall' 1 (by decide))
    obtain rfl := F.f2 (hall' 2 (by decide))
    obtain rfl := F.f3 (hall' 3 (by decide))
    obtain rfl := F.f4 (hall' 4 (by decide))
    obtain rfl := F.f5 (hall' 5 (by decide))
    obtain rfl := F.f6 (hall' 6 (by decide))
    obtain rfl := F.f7 (hall' 7 (by decide))
    obtain rfl := F.f8 (hall' 8 (by decide))
    obtain rfl := F.f9 (hall' 9 (by decide))
    have hst := F.st3 (hall' 7 (by decide))
    rw [show d_ 6 = true from hall' 6 (by decide)] at hst
    exact HQ.out ms g1 r1 r2 w1 hst
end Go.Proofs.Ytjkhclijmcmdjaa
namespace Go.Proofs.Ytjkhclijmcmdjaa
set_option linter.unusedVariables false
set_option linter.unusedSimpArgs false
theorem open_ok {p : Prs} (hV : p.valid = true) {b : Bool} : p.openE b = if b then 0 else 2 := by
  unfold Prs.openE
  cases b <;> simp [hV]
theorem planOk_of {p : Prs} {l : List Fme} (h : planOk p l = true) : (l.length : Int) ≤ p.formes ∧ ∀ f ∈ l, fmeOk p f = true := by
  unfold planOk at h
  simpa using h
theorem sure_plan {p : Prs} {l : List Fme} (h : p.Sure l) : planOk p l = true := by
  unfold planOk
  simpa using ⟨h.1, h.2.1⟩
theorem check_plan {p : Prs} (hV : p.valid = true) {l : List Fme} (h : planOk p l = true) : checkE p l = (0, 0) ∧ p.few l = none ∨ ∃ v : Nat, checkE p l = ((v : Int), 10) ∧ p.few l = some v := by
  unfold checkE
  rw [open_ok hV, h]
  cases hf : p.few l with
  | none => left; simp
  | some v => right; exact ⟨v, by simp, rfl⟩
/-- What a check says of a list: it is a plan that surely gives what is wanted, or it is not. -/
theorem check_cases {p : Prs} (hV : p.valid = true) (l : List Fme) : (checkE p l = (0, 0) ∧ p.Sure l) ∨ (∃ x : Int, checkE p l = (x, 10) ∧ planOk p l = true ∧ ¬ p.Sure l) ∨ (checkE p l = (0, 2) ∧ planOk p l = false ∧ ¬ p.Sure l) := by
  by_cases h : planOk p l = true
  · rcases check_plan hV h with ⟨h1, h2⟩ | ⟨v, h1, h2⟩
    · exact .inl ⟨h1, (planOk_of h).1, (planOk_of h).2, h2⟩
    · exact .inr (.inl ⟨v, h1, h, fun hs => by rw [hs.2.2] at h2; cases h2⟩)
  · have h' : planOk p l = false := by simpa using h
    refine .inr (.inr ⟨?_, h', fun hs => h (sure_plan hs)⟩)
    unfold checkE
    rw [open_ok hV, h']
    simp
theorem best_cases {p : Prs} (hV : p.valid = true) : (bestE p = ([], 0, 10) ∧ ∀ l, ¬ p.Sure l) ∨ ∃ b, bestE p = (b, p.cost b, 0) ∧ p.Sure b ∧ ∀ l, p.Sure l → cmpL (p.key b) (p.key l) ≤ 0 := by
  rcases best_law hV with ⟨h1, h2⟩ | ⟨b, h1, h2, h3⟩
  · left
    refine ⟨?_, h2⟩
    unfold bestE
    rw [open_ok hV]
    simp [h1]
  · right
    refine ⟨b, ?_, h2, h3⟩
    unfold bestE
    rw [open_ok hV]
    simp [h1]
end Go.Proofs.Ytjkhclijmcmdjaa
namespace Go.Proofs.Ytjkhclijmcmdjaa
set_option linter.unusedVariables false
set_option linter.unusedSimpArgs false
def decF (f : Fme) : List Fme := if 1 < f.times then [⟨f.slots, f.times - 1⟩] else []
def lessF (i : Nat) : List Fme → Nat → List Fme
  | [], _ => []
  | f :: r, k => (if k = i then decF f else [f]) ++ lessF i r (k + 1)
def dropF (i : Nat) : List Fme → Nat → List Fme
  | [], _ => []
  | f :: r, k => (if k = i then [] else [f]) ++ dropF i r (k + 1)
theorem lessF_snoc (i : Nat) (f : Fme) : ∀ (l : List Fme) (k : Nat), lessF i (l ++ [f]) k = lessF i l k ++ (if k + l.length = i then decF f else [f])
  | [], k => by simp [lessF]
  | g :: l, k => by
    rw [List.cons_append]
    unfold lessF
    rw [lessF_snoc i f l (k + 1), List.append_assoc, List.length_cons, show k + 1 + l.length = k + (l.length + 1) by omega]
theorem dropF_snoc (i : Nat) (f : Fme) : ∀ (l : List Fme) (k : Nat), dropF i (l ++ [f]) k = dropF i l k ++ (if k + l.length = i then [] else [f])
  | [], k => by simp [dropF]
  | g :: l, k => by
    rw [List.cons_append]
    unfold dropF
    rw [dropF_snoc i f l (k + 1), List.append_assoc, List.length_cons, show k + 1 + l.length = k + (l.length + 1) by omega]
theorem lessF_take {l : List Fme} {i k : Nat} (h : k < l.length) : lessF i (l.take (k + 1)) 0 = lessF i (l.take k) 0 ++ (if k = i then decF (gf l k) else [gf l k]) := by
  have e : l.take (k + 1) = l.take k ++ [gf l k] := by
    rw [List.take_add_one, List.getElem?_eq_getElem h]
    simp [gf, h]
  rw [e, lessF_snoc, List.length_take, Nat.min_eq_left (by omega), Nat.zero_add]
theorem dropF_take {l : List Fme} {i k : Nat} (h : k < l.length) : dropF i (l.take (k + 1)) 0 = dropF i (l.take k) 0 ++ (if k = i then [] else [gf l k]) := by
  have e : l.take (k + 1) = l.take k ++ [gf l k] := by
    rw [List.take_add_one, List.getElem?_eq_getElem h]
    simp [gf, h]
  rw [e, dropF_snoc, List.length_take, Nat.min_eq_left (by omega), Nat.zero_add]
theorem lessF_mem {i : Nat} {g : Fme} : ∀ {l : List Fme} {k : Nat}, g ∈ lessF i l k → ∃ f ∈ l, g = f ∨ (1 < f.times ∧ g = ⟨f.slots, f.times - 1⟩)
  | [], _, h => by cases h
  | f :: r, k, h => by
    unfold lessF at h
    rcases List.mem_append.1 h with h | h
    · split at h
      · unfold decF at h
        split at h
        · next ht => exact ⟨f, by simp, .inr ⟨ht, List.mem_singleton.1 h⟩⟩
        · cases h
      · exact ⟨f, by simp, .inl (List.mem_singleton.1 h)⟩
    · obtain ⟨x, hx, hg⟩ := lessF_mem h
      exact ⟨x, by simp [hx], hg⟩
theorem dropF_mem {i : Nat} {g : Fme} : ∀ {l : List Fme} {k : Nat}, g ∈ dropF i l k → g ∈ l
  | [], _, h => by cases h
  | f :: r, k, h => by
    unfold dropF at h
    rcases List.mem_append.1 h with h | h
    · split at h
      · cases h
      · rw [List.mem_singleton.1 h]; simp
    · have := dropF_mem h; simp [this]
theorem lessF_len {i : Nat} : ∀ (l : List Fme) (k : Nat), (lessF i l k).length ≤ l.length
  | [], _ => by simp [lessF]
  | f :: r, k => by
    unfold lessF
    rw [List.length_append, List.length_cons]
    have := lessF_len (i := i) r (k + 1)
    have h2 : (if k = i then decF f else [f]).length ≤ 1 := by
      split
      · unfold decF; split <;> simp
      · simp
    omega
theorem dropF_len {i : Nat} : ∀ (l : List Fme) (k : Nat), (dropF i l k).length ≤ l.length
  | [], _ => by simp [dropF]
  | f :: r, k => by
    unfold dropF
    rw [List.length_append, List.length_cons]
    have := dropF_len (i := i) r (k + 1)
    have h2 : (if k = i then [] else [f]).length ≤ 1 := by split <;> simp
    omega
theorem cost_cons (p : Prs) (f : Fme) (r : List Fme) : p.cost (f :: r) = p.make + p.sheet * f.times + p.cost r := rfl
theorem cost_app (p : Prs) : ∀ (a b : List Fme), p.cost (a ++ b) = p.cost a + p.cost b
  | [], b => by show p.cost b = 0 + p.cost b; omega
  | f :: r, b => by rw [List.cons_append, cost_cons, cost_cons, cost_app p r b]; omega
theorem less_cost {p : Prs} (h0 : 0 ≤ p.make) {i : Nat} : ∀ {l : List Fme} {k : Nat}, k ≤ i → i < k + l.length → (∀ f ∈ l, 1 ≤ f.times) → p.cost (lessF i l k) ≤ p.cost l - p.sheet
  | [], k, h1, h2, _ => by simp at h2; omega
  | f :: r, k, h1, h2, ht => by
    have hf := ht f (by simp)
    unfold lessF
    rw [cost_app, cost_cons]
    by_cases hk : k = i
    · have hr : ∀ {l : List Fme} {j : Nat}, i < j → lessF i l j = l := fun {l} => by
        induction l with
        | nil => intro j _; rfl
        | cons g l ih => intro j hj; unfold lessF; rw [if_neg (by omega), ih (by omega)]; rfl
      rw [if_pos hk, hr (l := r) (j := k + 1) (by omega)]
      unfold decF
      split
      · have e : p.cost [⟨f.slots, f.times - 1⟩] = p.make + p.sheet * (f.times - 1) := cost_one p _
        rw [e, Int.mul_sub, Int.mul_one]
        omega
      · have e : f.times = 1 := by omega
        have e2 : p.cost [] = 0 := rfl
        rw [e, e2, Int.mul_one]
        omega
    · rw [if_neg hk]
      have := less_cost h0 (i := i) (l := r) (k := k + 1) (by omega) (by simp at h2; omega) (fun g hg => ht g (by simp [hg]))
      have e : p.cost [f] = p.make + p.sheet * f.times := cost_one p f
      omega
theorem drop_cost {p : Prs} (h0 : 0 ≤ p.sheet) {i : Nat} : ∀ {l : List Fme} {k : Nat}, k ≤ i → i < k + l.length → (∀ f ∈ l, 1 ≤ f.times) → p.cost (dropF i l k) ≤ p.cost l - p.make
  | [], k, h1, h2, _ => by simp at h2; omega
  | f :: r, k, h1, h2, ht => by
    have hf := ht f (by simp)
    unfold dropF
    rw [cost_app, cost_cons]
    by_cases hk : k = i
    · have hr : ∀ {l : List Fme} {j : Nat}, i < j → dropF i l j = l := fun {l} => by
        induction l with
        | nil => intro j _; rfl
        | cons g l ih => intro j hj; unfold dropF; rw [if_neg (by omega), ih (by omega)]; rfl
      rw [if_pos hk, hr (l := r) (j := k + 1) (by omega)]
      have e2 : p.cost [] = 0 := rfl
      have h3 := Int.mul_nonneg h0 (show 0 ≤ f.times by omega)
      omega
    · rw [if_neg hk]
      have := drop_cost h0 (i := i) (l := r) (k := k + 1) (by omega) (by simp at h2; omega) (fun g hg => ht g (by simp [hg]))
      have e : p.cost [f] = p.make + p.sheet * f.times := cost_one p f
      omega
theorem less_plan {p : Prs} {l : List Fme} {i : Nat} (h : planOk p l = true) : planOk p (lessF i l 0) = true ∧ planOk p (dropF i l 0) = true := by
  obtain ⟨h1, h2⟩ := planOk_of h
  have a1 := lessF_len (i := i) l 0
  have a2 := dropF_len (i := i) l 0
  unfold planOk
  simp only [Bool.and_eq_true, decide_eq_true_eq, List.all_eq_true]
  refine ⟨⟨by omega, fun g hg => ?_⟩, by omega, fun g hg => h2 g (dropF_mem hg)⟩
  obtain ⟨f, hf, hg⟩ := lessF_mem hg
  have hf := h2 f hf
  rcases hg with rfl | ⟨ht, rfl⟩
  · exact hf
  · obtain ⟨b1, b2, b3, b4⟩ := fme_parts hf
    unfold fmeOk
    simp only [Bool.and_eq_true, decide_eq_true_eq, inR, List.all_eq_true]
    exact ⟨⟨⟨b1, fun z hz => b2 z hz⟩, b3⟩, by omega, by omega⟩
/-- Without a sheet, or without a forme, of the cheapest plan too few are given, unless sheets, or formes, cost nothing. -/
theorem less_law {p : Prs} (hV : p.valid = true) {b : List Fme} (hS : p.Sure b) (hmin : ∀ l, p.Sure l → cmpL (p.key b) (p.key l) ≤ 0) {i : Nat} (hi : i < b.length) :
    (∃ x : Int, ∃ y : Int, checkE p (lessF i b 0) = (x, y) ∧ (0 < p.sheet → y = 10)) ∧ ∃ x : Int, ∃ y : Int, checkE p (dropF i b 0) = (x, y) ∧ (0 < p.make → y = 10) := by
  have hp := less_plan (i := i) (sure_plan hS)
  have h0 := sheet_of hV
  have ht : ∀ f ∈ b, 1 ≤ f.times := fun f hf => (fme_parts (hS.2.1 f hf)).2.2.2.1
  have c1 := less_cost (p := p) h0.2 (i := i) (l := b) (k := 0) (by omega) (by omega) ht
  have c2 := drop_cost (p := p) h0.1 (i := i) (l := b) (k := 0) (by omega) (by omega) ht
  obtain ⟨x, y, hx⟩ : ∃ x y, checkE p (lessF i b 0) = (x, y) := ⟨_, _, rfl⟩
  obtain ⟨u, v, hu⟩ : ∃ u v, checkE p (dropF i b 0) = (u, v) := ⟨_, _, rfl⟩
  refine ⟨⟨x, y, hx, fun h => ?_⟩, u, v, hu, fun h => ?_⟩
  · rcases check_cases hV (lessF i b 0) with ⟨_, h1⟩ | ⟨z, h1, _⟩ | ⟨_, h1, _⟩
    · have := key_le.1 (hmin _ h1)
      omega
    · rw [h1] at hx; exact (Prod.mk.inj hx).2.symm
    · rw [hp.1] at h1; cases h1
  · rcases check_cases hV (dropF i b 0) with ⟨_, h1⟩ | ⟨z, h1, _⟩ | ⟨_, h1, _⟩
    · have := key_le.1 (hmin _ h1)
      omega
    · rw [h1] at hu; exact (Prod.mk.inj hu).2.symm
    · rw [hp.2] at h1; cases h1
end Go.Proofs.Ytjkhclijmcmdjaa
namespace Go.Proofs.Ytjkhclijmcmdjaa
open Go.RowKit
set_option linter.unusedVariables false
set_option linter.unusedSimpArgs false
set_option maxRecDepth 100000 in
set_option maxHeartbeats 8000000 in
theorem stockLess_any {p : Prs} {A : PrsA} {w : World} (hP : IsPrs w p A) :
    Calls Try.prog 8 #[p.v A] w fun e w' => e = .returned (.bool true) ∧ Below w.heap.size w w' := by
  have hb0 : Below w.heap.size w (w.alloc (.cells (p.arr A) 27)) := (Below.refl _ w).alloc (Nat.le_refl _) _
  have q0 := World.alloc_heap_new w (.cells (p.arr A) 27)
  have HW := Lib.hid (And.intro hb0 (And.intro q0 (hP.mono hb0)))
  clear hb0 q0 hP
  go_enter Try.func8, Try.ntmps8
  refine wp_seq_hid ?_
  intro K0 HK0
  go_wp2_with fail
  refine HK0.out _ _ ?_
  clear HK0 K0
  refine wp_seq_hid ?_
  intro K1 HK1
  revert HW
  generalize w.alloc (.cells (p.arr A) 27) = w1
  intro HW
  have KP : Hid (∀ v, Below w1.heap.size w1 v → PrsC v w.heap.size p A ∧ IsPrs v p A ∧ Below w.heap.size w v) := fun v h => ⟨prs_cells ((h.block _ (heap_lt HW.out.2.1)).trans HW.out.2.1), HW.out.2.2.mono h, HW.out.1.trans (h.mono HW.out.1.size)⟩
  have HB := Lib.hid (Below.refl w1.heap.size w1)
  obtain ⟨k0, k1, k2, k3, k4, k5, k6, k7, k8, k9⟩ := (KP.out w1 HB.out).1
  go_wp2_with fail
  refine (far13 (l := []) (a := none) (c := 0) (KP.out w1 HB.out).2.1 (fmes_nil _)).mono ?_
  rintro e b1 ⟨rfl, hb⟩
  have HX := Lib.hid (HB.out.trans (hb.mono HB.out.size))
  clear hb HB k0 k1 k2 k3 k4 k5 k6 k7 k8 k9
  have HB := HX
  clear HX
  cases hf : farB p []
  case true =>
    go_wp2_with fail
    refine (awake14 (w := _)).mono ?_
    rintro e c1 ⟨rfl, hb⟩
    have HX := Lib.hid (HB.out.trans (hb.mono HB.out.size))
    clear hb
    go_wp2_with fail
    go_ret
    exact ⟨rfl, (KP.out _ HX.out).2.2⟩
  have HS := Lib.hid (far_small hf).1
  clear hf
  obtain ⟨k0, k1, k2, k3, k4, k5, k6, k7, k8, k9⟩ := (KP.out b1 HB.out).1
  go_wp2_with fail
  refine (heavy22 (r := 4) (n := 20) (KP.out b1 HB.out).2.1 HS.out).mono ?_
  rintro e b2 ⟨rfl, hb⟩
  have HX := Lib.hid (HB.out.trans (hb.mono HB.out.size))
  clear hb HB k0 k1 k2 k3 k4 k5 k6 k7 k8 k9
  have HB := HX
  clear HX
  cases hh : heavyB p 4 20
  case true =>
    go_wp2_with fail
    refine (awake14 (w := _)).mono ?_
    rintro e c1 ⟨rfl, hb⟩
    have HX := Lib.hid (HB.out.trans (hb.mono HB.out.size))
    clear hb
    go_wp2_with fail
    go_ret
    exact ⟨rfl, (KP.out _ HX.out).2.2⟩
  clear hh
  have C17 : Hid (∀ (l : List Fme) (x y : Int), checkE p l = (x, y) → ∀ v (a : Option Addr) (c : Nat), Below w1.heap.size w1 v → IsFmes v a l → l.length ≤ 2 → (∀ f ∈ l, f.slots.length ≤ 4) → Calls Try.prog 17 #[p.v A, .slice a l.length c] v fun e w' => e = .returned (.tuple #[.int .i64 x, .int .i64 y]) ∧ Below v.heap.size v w') := fun l x y he v a c h hf h1 h2 => by
    have G := check17 (c := c) (KP.out v h).2.1 HS.out hf (by omega) (fun f hf => by have := h2 f hf; omega)
    rw [he] at G
    exact G
  have C23 : Hid (∀ (l : List Fme) (n x : Int), bestE p = (l, n, x) → ∀ v, Below w1.heap.size w1 v → Calls Try.prog 23 #[p.v A] v fun e w' => ∃ a c, e = .returned (.tuple #[.slice a l.length c, .int .i64 n, .int .i64 x]) ∧ IsFmes w' a l ∧ Below v.heap.size v w') := fun l n x he v h => by
    have G := best23 (KP.out v h).2.1 HS.out
    rw [he] at G
    exact G
  have G := rpress33 (KP.out b2 HB.out).2.1 HS.out
  obtain ⟨k0, k1, k2, k3, k4, k5, k6, k7, k8, k9⟩ := (KP.out b2 HB.out).1
  go_wp2_with fail
  refine (G).mono ?_
  rintro e b3 ⟨rfl, hb⟩
  have HX := Lib.hid (HB.out.trans (hb.mono HB.out.size))
  clear hb HB G k0 k1 k2 k3 k4 k5 k6 k7 k8 k9
  have HB := HX
  clear HX
  cases hv : p.valid
  case false =>
    go_wp2_with fail
    refine (awake14 (w := _)).mono ?_
    rintro e c1 ⟨rfl, hb⟩
    have HX := Lib.hid (HB.out.trans (hb.mono HB.out.size))
    clear hb
    go_wp2_with fail
    go_ret
    exact ⟨rfl, (KP.out _ HX.out).2.2⟩
  go_wp2_with fail
  refine HK1.out _ _ ?_
  clear HK1 K1
  refine wp_seq_hid ?_
  intro K2 HK2
  rcases best_cases hv with ⟨hE, hno⟩ | ⟨b, hE, hS, hmin⟩
  · obtain ⟨k0, k1, k2, k3, k4, k5, k6, k7, k8, k9⟩ := (KP.out b3 HB.out).1
    go_wp2_with fail
    refine (C23.out _ _ _ hE _ HB.out).mono ?_
    rintro e b4 ⟨a1, c1, rfl, hf1, hb⟩
    have HX := Lib.hid (And.intro (HB.out.trans (hb.mono HB.out.size)) hf1)
    clear hb HB hE k0 k1 k2 k3 k4 k5 k6 k7 k8 k9 hf1
    have HB := HX
    clear HX
    go_wp2_with fail
    refine HK2.out _ _ ?_
    clear HK2 K2
    clear hno hv
    go_wp2_with fail
    refine (awake14 (w := _)).mono ?_
    rintro e c1 ⟨rfl, hb⟩
    have HX := Lib.hid (HB.out.1.trans (hb.mono HB.out.1.size))
    clear hb
    go_wp2_with fail
    go_ret
    exact ⟨rfl, (KP.out _ HX.out).2.2⟩
  have HLAW := Lib.hid (fun i (hi : i < b.length) => less_law hv hS hmin hi)
  have HPL := Lib.hid (sure_plan hS)
  have HLB : Hid (∀ f ∈ b, 1 ≤ f.times ∧ f.times ≤ 1048576 ∧ f.slots.length ≤ 4) := fun f hf => by
    have h1 := fme_parts (hS.2.1 f hf)
    have h2 := wanted_of hv
    omega
  have HL2 : Hid (b.length ≤ 2) := by have h1 := hS.1; have h2 := formes_of hv; rw [Hid]; omega
  generalize p.cost b = n at hE
  clear hS hmin hv
  obtain ⟨k0, k1, k2, k3, k4, k5, k6, k7, k8, k9⟩ := (KP.out b3 HB.out).1
  go_wp2_with fail
  refine (C23.out _ _ _ hE _ HB.out).mono ?_
  rintro e b5 ⟨a1, c1, rfl, hf1, hb⟩
  have HX := Lib.hid (And.intro (HB.out.trans (hb.mono HB.out.size)) hf1)
  clear hb HB hE k0 k1 k2 k3 k4 k5 k6 k7 k8 k9 hf1
  have HB := HX
  clear HX
  go_wp2_with fail
  refine HK2.out _ _ ?_
  clear HK2 K2
  refine wp_seq_hid ?_
  intro K3 HK3
  go_wp2_with fail
  refine HK3.out _ _ ?_
  clear HK3 K3
  have HBC := Lib.hid HB.out.1
  have HF := Lib.hid HB.out.2
  clear HB
  have hl2 := HL2.out
  refine wp_seq_hid ?_
  intro K4 HK4
  go_wp2_with fail
  go_loopw [47] (fun i wr => ∃ k : Nat, k ≤ b.length ∧ i = .int .i64 k ∧ Below b5.heap.size b5 wr) (fun i _ => b.length - (intOf i).toNat)
  case atStart => exact ⟨0, by omega, rfl, Below.refl _ _⟩
  case round =>
    obtain ⟨i, hi, rfl, hbr⟩ := hrel
    have HBR := Lib.hid hbr
    clear hbr
    by_cases hlt : i < b.length
    · obtain ⟨⟨x, y, hx, hy⟩, u, v, hu, hv⟩ := HLAW.out i hlt
      have HX := Lib.hid hx
      have HY := Lib.hid hy
      have HU := Lib.hid hu
      have HV := Lib.hid hv
      have HFI := Lib.hid (HF.out.mono HBR.out)
      have HLI := Lib.hid hlt
      clear hx hy hu hv
      revert HBR HFI
      generalize wr = wo
      intro HBR HFI
      refine wp_seq_hid ?_
      intro KL7 HKL7
      go_wp2_with fail
      refine HKL7.out _ _ ?_
      clear HKL7 KL7
      refine wp_seq_hid ?_
      intro KLc HKLc
      go_wp2_with fail
      refine HKLc.out _ _ ?_
      clear HKLc KLc
      refine wp_seq_hid ?_
      intro KLB HKLB
      refine wp_block ?_
      refine wp_seq_hid ?_
      intro K8 HK8
      go_wp2_with fail
      refine HK8.out _ _ ?_
      clear HK8 K8
      refine wp_seq_hid ?_
      intro K9 HK9
      go_wp2_with fail
      refine HK9.out _ _ ?_
      clear HK9 K9
      refine wp_seq_hid ?_
      intro K5 HK5
      go_wp2_with fail
      go_loopw [7, 8, 52] (fun s t q wr => ∃ (k : Nat) (ra rb : Row), k ≤ b.length ∧ q = .int .i64 k ∧ s = .slice ra.1 (lessF i (b.take k) 0).length ra.2 ∧ t = .slice rb.1 (dropF i (b.take k) 0).length rb.2 ∧ Hid (Two wo (lessF i (b.take k) 0) (dropF i (b.take k) 0) ra rb wr)) (fun _ _ q _ => b.length - (intOf q).toNat)
      case atStart => exact ⟨0, (none, 0), (none, 0), by omega, rfl, rfl, rfl, Two.start wo⟩
      case round =>
        obtain ⟨k, ra, rb, hk, rfl, rfl, rfl, HT⟩ := hrel
        by_cases hkt : k < b.length
        · obtain ⟨bb, off, hab, ai, ci, c0, c1, c2⟩ := HFI.out k hkt
          rw [hab]
          have HAB := Lib.hid hab
          have d0 := cell_stays HT.out.a.1 c0
          have d1 := cell_stays HT.out.a.1 c1
          have HSL := Lib.hid c2
          have hbd := HLB.out (gf b k) (by simp [gf, hkt])
          have HLT := Lib.hid (lessF_take (i := i) hkt)
          have HDT := Lib.hid (dropF_take (i := i) hkt)
          have HLL : Hid ((lessF i (b.take k) 0).length ≤ 1000 ∧ (dropF i (b.take k) 0).length ≤ 1000) := by
            have h1 := lessF_len (i := i) (b.take k) 0
            have h2 := dropF_len (i := i) (b.take k) 0
            rw [List.length_take] at h1 h2
            exact ⟨by omega, by omega⟩
          clear hab c0 c1 c2
          have h5 : Below wr.heap.size wr (wr.alloc (.cells ((gf b k).arr ai ci) 29)) := (Below.refl _ wr).alloc (Nat.le_refl _) _
          have H5 := Lib.hid (And.intro (World.alloc_heap_new wr (.cells ((gf b k).arr ai ci) 29)) (And.intro (HT.out.below h5) (HT.out.notin (Nat.le_refl wr.heap.size))))
          clear h5 HT
          revert d0 d1 HSL hbd HLT HDT HLL H5
          generalize gf b k = f
          generalize lessF i (b.take k) 0 = la
          generalize dropF i (b.take k) 0 = lb
          intro d0 d1 HSL hbd HLT HDT HLL H5
          by_cases hki : k = i
          · rw [if_pos hki] at HLT HDT
            have hne : ((k : Int) != (i : Int)) = false := by simp [hki]
            have HLT2 := Lib.hid HLT.out
            have HDT2 := Lib.hid HDT.out
            have HKI := Lib.hid hki
            clear HLT HDT hki
            unfold decF at HLT2
            by_cases ht : 1 < f.times
            · rw [if_pos ht] at HLT2
              have hd : decide (f.times > 1) = true := by simpa using ht
              have hwr : IntKind.i64.wrap (f.times - 1) = f.times - 1 := IntWalk.i64_in _ (by omega)
              go_upto_region 16 with fail
              clear d0 d1
              revert H5
              generalize wr.alloc (.cells (f.arr ai ci) 29) = w5
              generalize wr.heap.size = b4
              intro H5
              have e0 : w5.cell? ⟨b4, 0, none⟩ = some (.slice ai f.slots.length ci) := by rw [cell_of_heap H5.out.1]; rfl
              have e1 : w5.cell? ⟨b4, 1, none⟩ = some (.int .i64 f.times) := by rw [cell_of_heap H5.out.1]; rfl
              have h6 : Below w5.heap.size w5 (w5.alloc (.cells #[.slice ai f.slots.length ci, .int .i64 (f.times - 1)] 29)) := (Below.refl _ w5).alloc (Nat.le_refl _) _
              obtain ⟨r', w6, hr, ht2, _, _⟩ := (H5.out.2.1.below h6).moreA (f := ⟨f.slots, f.times - 1⟩) (ms := w5.heap.size) HLL.out.1 (World.alloc_heap_new w5 (.cells #[.slice ai f.slots.length ci, .int .i64 (f.times - 1)] 29)) HSL.out
              have HR := Lib.hid hr
              have HT2 := Lib.hid ht2
              clear hr ht2 h6
              go_wp2_with (at_builtin; refine wpList_append_run rfl (.tmp 71) (.tmp 78) 30 rfl (.slice ra.1 la.length ra.2) (.slice (some ⟨w5.heap.size, 0, none⟩) 1 1) (.slice r'.1 (la.length + 1) r'.2) w6 rfl rfl HR.out ?_)
              clear e0 e1
              go_roundw
              case rel => exact ⟨k + 1, r', rb, by omega, by go_num, by rw [HLT2.out, List.length_append]; rfl, by rw [HDT2.out, List.append_nil], by rw [HLT2.out, HDT2.out, List.append_nil]; exact HT2.out⟩
              case measure => simp [intOf]; omega
            · rw [if_neg ht] at HLT2
              have hd : decide (f.times > 1) = false := by simpa using ht
              go_wp2_with fail
              go_roundw
              case rel => exact ⟨k + 1, ra, rb, by omega, by go_num, by rw [HLT2.out, List.append_nil], by rw [HDT2.out, List.append_nil], by rw [HLT2.out, HDT2.out, List.append_nil, List.append_nil]; exact H5.out.2.1⟩
              case measure => simp [intOf]; omega
          · rw [if_neg hki] at HLT HDT
            have hne : ((k : Int) != (i : Int)) = true := by simp; omega
            go_upto_region 14 with fail
            clear d0 d1 hne hki
            revert H5
            generalize wr.alloc (.cells (f.arr ai ci) 29) = w5
            generalize wr.heap.size = b4
            intro H5
            refine wpIn_wide.1 (les14 (ra := ra) (rb := rb) (na := la.length) (nb := lb.length) (bf := b4) (fa := ai) (nf := f.slots.length) (fc := ci) (ft := f.times)
              (S0 := fun fs ms v => Two wo la lb ra rb v ∧ (v.heap[b4]? = some (.cells (f.arr ai ci) 29 (0, 0)) ∧ NotIn la lb ra rb b4) ∧ (fs = true → v.heap[ms]? = some (.cells (f.arr ai ci) 29 (0, 0)) ∧ NotIn la lb ra rb ms))
              (S1 := fun fs ms g v => (Two wo la lb ra rb v ∧ (v.heap[b4]? = some (.cells (f.arr ai ci) 29 (0, 0)) ∧ NotIn la lb ra rb b4) ∧ (fs = true → v.heap[ms]? = some (.cells (f.arr ai ci) 29 (0, 0)) ∧ NotIn la lb ra rb ms)) ∧ v.heap[g]? = some (.cells (f.arr ai ci) 29 (0, 0)))
              (S2 := fun fs ms g r1 v => Two wo (la ++ [f]) lb r1 rb v ∧ v.heap[b4]? = some (.cells (f.arr ai ci) 29 (0, 0)) ∧ (fs = true → v.heap[ms]? = some (.cells (f.arr ai ci) 29 (0, 0))))
              (S3 := fun fs ms g r1 r2 v => Two wo (la ++ [f]) (lb ++ [f]) r1 r2 v) ?h0 ?l1 ?c2 ?c3 ?l5 ?s0 ?s1 ?s2 ?c7 ?hQ)
            case h0 => exact ⟨H5.out.2.1.below (Below.refl _ w5).drew, ⟨((Below.refl _ w5).drew.block _ (heap_lt H5.out.1)).trans H5.out.1, H5.out.2.2⟩, fun h => by cases h⟩
            case l1 =>
              intro fs ms v h
              exact ⟨by rw [cell_of_heap h.2.1.1]; rfl, by rw [cell_of_heap h.2.1.1]; rfl⟩
            case c2 =>
              intro fs ms v h
              have hb : Below v.heap.size v (v.alloc (.cells (f.arr ai ci) 29)) := (Below.refl _ v).alloc (Nat.le_refl _) _
              exact ⟨⟨h.1.below hb, ⟨(hb.block _ (heap_lt h.2.1.1)).trans h.2.1.1, h.2.1.2⟩, fun hf => ⟨(hb.block _ (heap_lt (h.2.2 hf).1)).trans (h.2.2 hf).1, (h.2.2 hf).2⟩⟩, World.alloc_heap_new v _⟩
            case c3 =>
              intro fs ms g v h
              obtain ⟨r', v', hr, ht, hk, _⟩ := h.1.1.moreA HLL.out.1 h.2 HSL.out
              exact ⟨r', v', hr, ht, (hk _ (heap_lt h.1.2.1.1) h.1.2.1.2).1.trans h.1.2.1.1, fun hf => (hk _ (heap_lt (h.1.2.2 hf).1) (h.1.2.2 hf).2).1.trans (h.1.2.2 hf).1⟩
            case l5 =>
              intro fs ms g r1 v h
              have hq : v.heap[b4]? = some (.cells (f.arr ai ci) 29 (0, 0)) := by
                rcases h with h | h | h
                · exact h.2.1.1
                · exact h.1.2.1.1
                · exact h.2.1
              exact ⟨by rw [cell_of_heap hq]; rfl, by rw [cell_of_heap hq]; rfl⟩
            case s0 =>
              intro v h
              have hb : Below v.heap.size v (v.alloc (.cells (f.arr ai ci) 29)) := (Below.refl _ v).alloc (Nat.le_refl _) _
              exact ⟨h.1.below hb, ⟨(hb.block _ (heap_lt h.2.1.1)).trans h.2.1.1, h.2.1.2⟩, fun _ => ⟨World.alloc_heap_new v _, h.1.notin (Nat.le_refl _)⟩⟩
            case s1 =>
              intro g v h
              have hb : Below v.heap.size v (v.alloc (.cells (f.arr ai ci) 29)) := (Below.refl _ v).alloc (Nat.le_refl _) _
              exact ⟨⟨h.1.1.below hb, ⟨(hb.block _ (heap_lt h.1.2.1.1)).trans h.1.2.1.1, h.1.2.1.2⟩, fun _ => ⟨World.alloc_heap_new v _, h.1.1.notin (Nat.le_refl _)⟩⟩, (hb.block _ (heap_lt h.2)).trans h.2⟩
            case s2 =>
              intro g r1 v h
              have hb : Below v.heap.size v (v.alloc (.cells (f.arr ai ci) 29)) := (Below.refl _ v).alloc (Nat.le_refl _) _
              exact ⟨h.1.below hb, (hb.block _ (heap_lt h.2.1)).trans h.2.1, fun _ => World.alloc_heap_new v _⟩
            case c7 =>
              intro ms g r1 v h
              obtain ⟨r', v', hr, ht, _⟩ := h.1.moreB HLL.out.2 (h.2.2 rfl) HSL.out
              exact ⟨r', v', hr, ht⟩
            intro ms g r1 r2 w6 h
            have HT2 := Lib.hid h
            clear h
            go_wp2_with fail
            go_roundw
            case rel => exact ⟨k + 1, r1, r2, by omega, by go_num, by rw [HLT.out, List.length_append]; rfl, by rw [HDT.out, List.length_append]; rfl, by rw [HLT.out, HDT.out]; exact HT2.out⟩
            case measure => simp [intOf]; omega
        · have hke : b.take k = b := List.take_of_length_le (by omega)
          rw [hke] at HT ⊢
          go_wp2_with fail
          refine HK5.out _ _ ?_
          have HLA : Hid ((lessF i b 0).length ≤ 2 ∧ ∀ f ∈ lessF i b 0, f.slots.length ≤ 4) := ⟨by have h1 := lessF_len (i := i) b 0; have h2 := HL2.out; omega, fun f hf => by
            obtain ⟨g, hg, h⟩ := lessF_mem hf
            have h3 := (HLB.out g hg).2.2
            rcases h with rfl | ⟨_, rfl⟩ <;> exact h3⟩
          have HDA : Hid ((dropF i b 0).length ≤ 2 ∧ ∀ f ∈ dropF i b 0, f.slots.length ≤ 4) := ⟨by have h1 := dropF_len (i := i) b 0; have h2 := HL2.out; omega, fun f hf => (HLB.out f (dropF_mem hf)).2.2⟩
          have HBW := Lib.hid (HBR.out.trans (HT.out.a.1.mono HBR.out.size))
          have HQ := Lib.hid (HBC.out.trans (HBW.out.mono HBC.out.size))
          have HFA := Lib.hid (And.intro HT.out.a.fmes HT.out.b.fmes)
          clear HT hke
          revert HX HU HLA HDA HFA
          generalize lessF i b 0 = la
          generalize dropF i b 0 = lb
          intro HX HU HLA HDA HFA
          obtain ⟨k0, k1, k2, k3, k4, k5, k6, k7, k8, k9⟩ := (KP.out wr HQ.out).1
          go_wp2_with fail
          clear k0 k1 k2 k3 k4 k5 k6 k7 k8 k9
          refine (C17.out _ _ _ HX.out wr ra.1 ra.2 HQ.out HFA.out.1 HLA.out.1 HLA.out.2).mono ?_
          rintro e u1 ⟨rfl, hb⟩
          have HQ1 := Lib.hid (HQ.out.trans (hb.mono HQ.out.size))
          have HFB := Lib.hid (HFA.out.2.mono hb)
          have HBW1 := Lib.hid (HBW.out.trans (hb.mono HBW.out.size))
          clear hb
          obtain ⟨k0, k1, k2, k3, k4, k5, k6, k7, k8, k9⟩ := (KP.out u1 HQ1.out).1
          by_cases hs : 0 < p.sheet
          · obtain rfl := HY.out hs
            have g1 : decide (p.sheet > 0) = true := by simpa using hs
            clear hs
            go_wp2_with fail
            clear g1 k0 k1 k2 k3 k4 k5 k6 k7 k8 k9
            refine (C17.out _ _ _ HU.out u1 rb.1 rb.2 HQ1.out HFB.out HDA.out.1 HDA.out.2).mono ?_
            rintro e u2 ⟨rfl, hb⟩
            have HQ2 := Lib.hid (HQ1.out.trans (hb.mono HQ1.out.size))
            have HBW2 := Lib.hid (HBW1.out.trans (hb.mono HBW1.out.size))
            clear hb
            obtain ⟨k0, k1, k2, k3, k4, k5, k6, k7, k8, k9⟩ := (KP.out u2 HQ2.out).1
            by_cases hm : 0 < p.make
            · obtain rfl := HV.out hm
              have g2 : decide (p.make > 0) = true := by simpa using hm
              clear hm
              go_wp2_with fail
              clear g2 k0 k1 k2 k3 k4 k5 k6 k7 k8 k9
              refine HKLB.out _ _ ?_
              go_wp2_with fail
              go_roundw
              case rel => exact ⟨i + 1, by have := HLI.out; omega, by go_num, HBW2.out⟩
              case measure => have := HLI.out; simp [intOf]; omega
            · have g2 : decide (p.make > 0) = false := by simpa using hm
              clear hm
              go_wp2_with fail
              clear g2 k0 k1 k2 k3 k4 k5 k6 k7 k8 k9
              refine HKLB.out _ _ ?_
              go_wp2_with fail
              go_roundw
              case rel => exact ⟨i + 1, by have := HLI.out; omega, by go_num, HBW2.out⟩
              case measure => have := HLI.out; simp [intOf]; omega
          · have g1 : decide (p.sheet > 0) = false := by simpa using hs
            clear hs
            go_wp2_with fail
            clear g1 k0 k1 k2 k3 k4 k5 k6 k7 k8 k9
            refine (C17.out _ _ _ HU.out u1 rb.1 rb.2 HQ1.out HFB.out HDA.out.1 HDA.out.2).mono ?_
            rintro e u2 ⟨rfl, hb⟩
            have HQ2 := Lib.hid (HQ1.out.trans (hb.mono HQ1.out.size))
            have HBW2 := Lib.hid (HBW1.out.trans (hb.mono HBW1.out.size))
            clear hb
            obtain ⟨k0, k1, k2, k3, k4, k5, k6, k7, k8, k9⟩ := (KP.out u2 HQ2.out).1
            by_cases hm : 0 < p.make
            · obtain rfl := HV.out hm
              have g2 : decide (p.make > 0) = true := by simpa using hm
              clear hm
              go_wp2_with fail
              clear g2 k0 k1 k2 k3 k4 k5 k6 k7 k8 k9
              refine HKLB.out _ _ ?_
              go_wp2_with fail
              go_roundw
              case rel => exact ⟨i + 1, by have := HLI.out; omega, by go_num, HBW2.out⟩
              case measure => have := HLI.out; simp [intOf]; omega
            · have g2 : decide (p.make > 0) = false := by simpa using hm
              clear hm
              go_wp2_with fail
              clear g2 k0 k1 k2 k3 k4 k5 k6 k7 k8 k9
              refine HKLB.out _ _ ?_
              go_wp2_with fail
              go_roundw
              case rel => exact ⟨i + 1, by have := HLI.out; omega, by go_num, HBW2.out⟩
              case measure => have := HLI.out; simp [intOf]; omega
    · go_wp2_with fail
      refine HK4.out _ _ ?_
      go_wp2_with fail
      refine (awake14 (w := _)).mono ?_
      rintro e c9 ⟨rfl, hb⟩
      have HX2 := Lib.hid (HBC.out.trans ((HBR.out.trans (hb.mono HBR.out.size)).mono HBC.out.size))
      clear hb
      go_wp2_with fail
      go_ret
      exact ⟨rfl, (KP.out _ HX2.out).2.2⟩
end Go.Proofs.Ytjkhclijmcmdjaa
namespace Go.Proofs.Ytjkhclijmcmdjaa
open Go.RowKit Go.WideShapes Go.ChangeShapes
section
variable {H : Type} {enc : TypeId × Value → H} {P : Program}
end
end Go.Proofs.Ytjkhclijmcmdjaa
namespace Go.Proofs.Ytjkhclijmcmdjaa
open Go.ChangeShapes Go.WideShapes Go.ChangeAt Go.Deep Go.RowKit Go.Joins
set_option linter.unusedVariables false
theorem Try.laidOut : laidOutB Try.prog = true := by kernel_rfl
section
variable {H : Type} {enc : TypeId × Value → H} {w : World} {base : Nat} {spare : Nat → Bool} {held : Bool}
end
end Go.Proofs.Ytjkhclijmcmdjaa
