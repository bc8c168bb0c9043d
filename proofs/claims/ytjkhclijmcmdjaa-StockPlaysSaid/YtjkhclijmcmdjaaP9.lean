/- The reference's play: its drawn region. The reference's play. The reference's Play and On. The reference's On. The reference's Starts. What is enough at first does not hang on how much more than enough there is. Are two rows of spans the same? Two shelves? Are two rows of formes the same? -/
import Derived.Test.YtjkhclijmcmdjaaP8
namespace Go.Proofs.Ytjkhclijmcmdjaa
open Go.RowKit
set_option linter.unusedVariables false
set_option linter.unusedSimpArgs false
structure rpl5F (p : Prs) (A : PrsA) (s : Shf) (dl : Dl) (a : Option Addr) (ai : Option Addr) (cs : Nat) (ci : Nat) (bp : Nat) (b7 : Nat) (bd : Nat) (off : Nat) (i : Nat) (q : Int) (m : Int) (n : Nat) (bb : Bool) (S0 : Bool → Nat → World → Prop) (S1 : Bool → Nat → Option Addr × Nat → World → Prop) (S2 : Bool → Nat → Option Addr × Nat → World → Prop) (d : Nat → Bool) (x19 x20 x21 x22 x23 x24 x25 x26 x18 x27 x28 x9 x10 : Value) (ms : Nat) (r1 : Option Addr × Nat) (w : World) : Prop where
  q3 : d 3 = true → d 2 = true
  q5 : d 5 = true → d 3 = true ∧ d 4 = true
  q6 : d 6 = true → d 5 = true
  q7 : d 7 = true → d 0 = true ∧ d 1 = true ∧ d 6 = true
  q8 : d 8 = true → d 7 = true
  q9 : d 9 = true → d 8 = true
  q10 : d 10 = true → d 8 = true
  q12 : d 12 = true → d 0 = true ∧ d 1 = true ∧ d 2 = true ∧ d 3 = true ∧ d 4 = true ∧ d 5 = true ∧ d 6 = true ∧ d 7 = true ∧ d 8 = true ∧ d 9 = true ∧ d 11 = true
  q13 : d 13 = true → d 0 = true ∧ d 1 = true ∧ d 2 = true ∧ d 3 = true ∧ d 4 = true ∧ d 5 = true ∧ d 6 = true ∧ d 7 = true ∧ d 8 = true ∧ d 9 = true ∧ d 10 = true ∧ d 11 = true ∧ d 12 = true
  f0 : d 0 = true → x19 = .agg #[.int .i64 (p.room), .int .i64 (p.formes), .int .i64 (p.slo), .int .i64 (p.shi), .int .i64 (p.make), .int .i64 (p.sheet), .slice A.aw p.wanted.length A.cw, .int .i64 (p.paper), .int .i64 (p.money), .slice A.ad p.deals.length A.cd]
  f1 : d 1 = true → x20 = .agg #[.int .i64 (s.paper), .int .i64 (s.money), .slice a s.cards.length cs]
  f2 : d 2 = true → x21 = .pointer (some ⟨bp, 9, none⟩)
  f3 : d 3 = true → x22 = .slice (some ⟨bd, off, none⟩) p.deals.length A.cd
  f4 : d 4 = true → x23 = .int .i64 ((i : Int))
  f5 : d 5 = true → x24 = .pointer (some ⟨bd, off + i * 6, none⟩)
  f6 : d 6 = true → x25 = .agg #[.int .i64 (dl.kind), .slice ai dl.forme.slots.length ci, .int .i64 (dl.forme.times), .int .i64 (dl.view), .int .i64 (dl.many), .int .i64 (dl.pence)]
  f7 : d 7 = true → x26 = .tuple #[.agg #[.int .i64 (q), .int .i64 (m), .slice r1.1 n r1.2], .bool bb]
  f8 : d 8 = true → x18 = .tuple #[.agg #[.int .i64 (q), .int .i64 (m), .slice r1.1 n r1.2], .bool bb]
  f9 : d 9 = true → x27 = .agg #[.int .i64 (q), .int .i64 (m), .slice r1.1 n r1.2]
  f10 : d 10 = true → x28 = .bool bb
  f11 : d 11 = true → x9 = .pointer (some ⟨ms, 0, none⟩)
  f13 : d 13 = true → x10 = .bool bb
  st0 : d 7 = false → S0 (d 11) ms w
  st1 : d 7 = true → d 12 = false → S1 (d 11) ms r1 w
  st2 : d 12 = true → S2 (d 11) ms r1 w
  mz : d 11 = false → ms = 0
noncomputable def rpl5C : Code := (Try.f59.body.bind (regionAt 5)).getD .skip
set_option maxRecDepth 100000 in
set_option maxHeartbeats 4000000 in
theorem rpl5 {p : Prs} {A : PrsA} {s : Shf} {dl : Dl} {a : Option Addr} {ai : Option Addr} {cs : Nat} {ci : Nat} {bp : Nat} {b7 : Nat} {bd : Nat} {off : Nat} {i : Nat} {q : Int} {m : Int} {n : Nat} {bb : Bool} {S0 : Bool → Nat → World → Prop} {S1 : Bool → Nat → Option Addr × Nat → World → Prop} {S2 : Bool → Nat → Option Addr × Nat → World → Prop} {Q : Exit → Act → World → Prop} {W1 : World} (hi : i < p.deals.length) (hl : p.deals.length ≤ 100) (h0 : S0 false 0 W1.drew)
    (kl0 : Hid (∀ (fs : Bool) (ms : Nat) (w : World), (S0 fs ms w) → w.cell? ⟨bp, 0, none⟩ = some (.int .i64 (p.room)) ∧ w.cell? ⟨bp, 1, none⟩ = some (.int .i64 (p.formes)) ∧ w.cell? ⟨bp, 2, none⟩ = some (.int .i64 (p.slo)) ∧ w.cell? ⟨bp, 3, none⟩ = some (.int .i64 (p.shi)) ∧ w.cell? ⟨bp, 4, none⟩ = some (.int .i64 (p.make)) ∧ w.cell? ⟨bp, 5, none⟩ = some (.int .i64 (p.sheet)) ∧ w.cell? ⟨bp, 6, none⟩ = some (.slice A.aw p.wanted.length A.cw) ∧ w.cell? ⟨bp, 7, none⟩ = some (.int .i64 (p.paper)) ∧ w.cell? ⟨bp, 8, none⟩ = some (.int .i64 (p.money)) ∧ w.cell? ⟨bp, 9, none⟩ = some (.slice A.ad p.deals.length A.cd)))
    (kl1 : Hid (∀ (fs : Bool) (ms : Nat) (w : World), (S0 fs ms w) → w.cell? ⟨b7, 0, none⟩ = some (.int .i64 (s.paper)) ∧ w.cell? ⟨b7, 1, none⟩ = some (.int .i64 (s.money)) ∧ w.cell? ⟨b7, 2, none⟩ = some (.slice a s.cards.length cs)))
    (kl3 : Hid (∀ (fs : Bool) (ms : Nat) (w : World), (S0 fs ms w) → w.cell? ⟨bp, 9, none⟩ = some (.slice (some ⟨bd, off, none⟩) p.deals.length A.cd)))
    (kl6 : Hid (∀ (fs : Bool) (ms : Nat) (w : World), (S0 fs ms w) → w.cell? ⟨bd, off + i * 6, none⟩ = some (.int .i64 (dl.kind)) ∧ w.cell? ⟨bd, off + i * 6 + 1, none⟩ = some (.slice ai dl.forme.slots.length ci) ∧ w.cell? ⟨bd, off + i * 6 + 2, none⟩ = some (.int .i64 (dl.forme.times)) ∧ w.cell? ⟨bd, off + i * 6 + 3, none⟩ = some (.int .i64 (dl.view)) ∧ w.cell? ⟨bd, off + i * 6 + 4, none⟩ = some (.int .i64 (dl.many)) ∧ w.cell? ⟨bd, off + i * 6 + 5, none⟩ = some (.int .i64 (dl.pence))))
    (kc7 : Hid (∀ (fs : Bool) (ms : Nat) (w : World), S0 fs ms w → Calls Try.prog 64 #[.agg #[.int .i64 (p.room), .int .i64 (p.formes), .int .i64 (p.slo), .int .i64 (p.shi), .int .i64 (p.make), .int .i64 (p.sheet), .slice A.aw p.wanted.length A.cw, .int .i64 (p.paper), .int .i64 (p.money), .slice A.ad p.deals.length A.cd], .agg #[.int .i64 (s.paper), .int .i64 (s.money), .slice a s.cards.length cs], .agg #[.int .i64 (dl.kind), .slice ai dl.forme.slots.length ci, .int .i64 (dl.forme.times), .int .i64 (dl.view), .int .i64 (dl.many), .int .i64 (dl.pence)]] w fun e w' => ∃ r1 : Option Addr × Nat, e = .returned (.tuple #[.agg #[.int .i64 (q), .int .i64 (m), .slice r1.1 n r1.2], .bool bb]) ∧ S1 fs ms r1 w'))
    (ks0 : Hid (∀ (w : World), S0 false 0 w → S0 true w.heap.size (w.alloc (.cells #[.int .i64 0, .int .i64 0, .slice none 0 0] 48))))
    (ks1 : Hid (∀ (r1 : Option Addr × Nat) (w : World), S1 false 0 r1 w → S1 true w.heap.size r1 (w.alloc (.cells #[.int .i64 0, .int .i64 0, .slice none 0 0] 48))))
    (kc12 : Hid (∀ (ms : Nat) (r1 : Option Addr × Nat) (w : World), S1 true ms r1 w → (∃ u, w.cell? ⟨ms, 0, none⟩ = some u) ∧ w.frozen? ⟨ms, 0, none⟩ = false ∧ (∃ u, w.cell? ⟨ms, 1, none⟩ = some u) ∧ w.frozen? ⟨ms, 1, none⟩ = false ∧ (∃ u, w.cell? ⟨ms, 2, none⟩ = some u) ∧ w.frozen? ⟨ms, 2, none⟩ = false ∧ S2 true ms r1 (((w.setCell ⟨ms, 0, none⟩ (.int .i64 (q))).setCell ⟨ms, 1, none⟩ (.int .i64 (m))).setCell ⟨ms, 2, none⟩ (.slice r1.1 n r1.2))))
    {s0 s1 s3 s4 s5 s6 s9 s10 s11 s12 s13 s14 s15 s16 s17 s18 s19 s20 s21 s22 s23 s24 s25 s26 s27 s28 s29 s30 s31 s32 s33 s34 s35 : Value} {dd : List Deferred}
    (hQ : ∀ (ms : Nat) (r1 : Option Addr × Nat) (w' : World), S2 true ms r1 w' → Q .normal { tmps := #[s0, s1, .pointer (some ⟨bp, 0, none⟩), s3, s4, s5, s6, .pointer (some ⟨b7, 0, none⟩), .int .i64 ((i : Int)), .pointer (some ⟨ms, 0, none⟩), .bool bb, s11, s12, s13, s14, s15, s16, s17, .tuple #[.agg #[.int .i64 (q), .int .i64 (m), .slice r1.1 n r1.2], .bool bb], .agg #[.int .i64 (p.room), .int .i64 (p.formes), .int .i64 (p.slo), .int .i64 (p.shi), .int .i64 (p.make), .int .i64 (p.sheet), .slice A.aw p.wanted.length A.cw, .int .i64 (p.paper), .int .i64 (p.money), .slice A.ad p.deals.length A.cd], .agg #[.int .i64 (s.paper), .int .i64 (s.money), .slice a s.cards.length cs], .pointer (some ⟨bp, 9, none⟩), .slice (some ⟨bd, off, none⟩) p.deals.length A.cd, .int .i64 ((i : Int)), .pointer (some ⟨bd, off + i * 6, none⟩), .agg #[.int .i64 (dl.kind), .slice ai dl.forme.slots.length ci, .int .i64 (dl.forme.times), .int .i64 (dl.view), .int .i64 (dl.many), .int .i64 (dl.pence)], .tuple #[.agg #[.int .i64 (q), .int .i64 (m), .slice r1.1 n r1.2], .bool bb], .agg #[.int .i64 (q), .int .i64 (m), .slice r1.1 n r1.2], .bool bb, s29, s30, s31, s32, s33, s34, s35], defers := dd } w') :
    Code.wpIn (wideAt none) 0 Try.prog rpl5C Q { tmps := #[s0, s1, .pointer (some ⟨bp, 0, none⟩), s3, s4, s5, s6, .pointer (some ⟨b7, 0, none⟩), .int .i64 ((i : Int)), s9, s10, s11, s12, s13, s14, s15, s16, s17, s18, s19, s20, s21, s22, s23, s24, s25, s26, s27, s28, s29, s30, s31, s32, s33, s34, s35], defers := dd } W1 := by
  have HQ := Lib.hid hQ
  clear hQ
  conv => arg 4; whnf
  refine wpIn_region_invG mixed (by kernel_rfl) (fun d_ a_ w' => ∃ (x19 : Value) (x20 : Value) (x21 : Value) (x22 : Value) (x23 : Value) (x24 : Value) (x25 : Value) (x26 : Value) (x18 : Value) (x27 : Value) (x28 : Value) (x9 : Value) (x10 : Value) (ms : Nat) (r1 : Option Addr × Nat), a_ = { tmps := #[s0, s1, .pointer (some ⟨bp, 0, none⟩), s3, s4, s5, s6, .pointer (some ⟨b7, 0, none⟩), .int .i64 ((i : Int)), x9, x10, s11, s12, s13, s14, s15, s16, s17, x18, x19, x20, x21, x22, x23, x24, x25, x26, x27, x28, s29, s30, s31, s32, s33, s34, s35], defers := dd } ∧ rpl5F p A s dl a ai cs ci bp b7 bd off i q m n bb S0 S1 S2 d_ x19 x20 x21 x22 x23 x24 x25 x26 x18 x27 x28 x9 x10 ms r1 w') ?_ ?_ ?_
  · refine ⟨s19, s20, s21, s22, s23, s24, s25, s26, s18, s27, s28, s9, s10, 0, default, rfl, ?_⟩
    constructor <;> first | rfl | (intro _; rfl) | (intro h; cases h; done) | (intro _; exact h0) | exact h0
  · refine ⟨?_, ?_, ?_, ?_, ?_, ?_, ?_, ?_, ?_, ?_, ?_, ?_, ?_, ?_, trivial⟩
    all_goals
      rintro d_ a_ w1 K hd_ hdep ⟨x19, x20, x21, x22, x23, x24, x25, x26, x18, x27, x28, x9, x10, ms, r1, rfl, F⟩ HK
      simp [Region.binds] at hdep
    · have hst : S0 (d_ 11) ms w1 := by
        have n_ : d_ 7 = false := by
          cases e_ : d_ 7 with
          | false => rfl
          | true => have h2 := (F.q7 e_).1; rw [show d_ 0 = false from hd_] at h2; cases h2
        exact (F.st0 n_)
      have kk := kl0.out (d_ 11) ms w1 hst
      obtain ⟨kk0, kk1, kk2, kk3, kk4, kk5, kk6, kk7, kk8, kk9⟩ := kk
      clear hst
      have HF : Hid (rpl5F p A s dl a ai cs ci bp b7 bd off i q m n bb S0 S1 S2 (upd d_ 0) (.agg #[.int .i64 (p.room), .int .i64 (p.formes), .int .i64 (p.slo), .int .i64 (p.shi), .int .i64 (p.make), .int .i64 (p.sheet), .slice A.aw p.wanted.length A.cw, .int .i64 (p.paper), .int .i64 (p.money), .slice A.ad p.deals.length A.cd]) x20 x21 x22 x23 x24 x25 x26 x18 x27 x28 x9 x10 ms r1 w1) := ⟨F.q3, F.q5, F.q6, fun h => ⟨rfl, (F.q7 h).2.1, (F.q7 h).2.2⟩, F.q8, F.q9, F.q10, fun h => ⟨rfl, (F.q12 h).2.1, (F.q12 h).2.2.1, (F.q12 h).2.2.2.1, (F.q12 h).2.2.2.2.1, (F.q12 h).2.2.2.2.2.1, (F.q12 h).2.2.2.2.2.2.1, (F.q12 h).2.2.2.2.2.2.2.1, (F.q12 h).2.2.2.2.2.2.2.2.1, (F.q12 h).2.2.2.2.2.2.2.2.2.1, (F.q12 h).2.2.2.2.2.2.2.2.2.2⟩, fun h => ⟨rfl, (F.q13 h).2.1, (F.q13 h).2.2.1, (F.q13 h).2.2.2.1, (F.q13 h).2.2.2.2.1, (F.q13 h).2.2.2.2.2.1, (F.q13 h).2.2.2.2.2.2.1, (F.q13 h).2.2.2.2.2.2.2.1, (F.q13 h).2.2.2.2.2.2.2.2.1, (F.q13 h).2.2.2.2.2.2.2.2.2.1, (F.q13 h).2.2.2.2.2.2.2.2.2.2.1, (F.q13 h).2.2.2.2.2.2.2.2.2.2.2.1, (F.q13 h).2.2.2.2.2.2.2.2.2.2.2.2⟩, fun _ => rfl, F.f1, F.f2, F.f3, F.f4, F.f5, F.f6, F.f7, F.f8, F.f9, F.f10, F.f11, F.f13, F.st0, F.st1, F.st2, F.mz⟩
      clear F
      go_simp
      exact HK.out _ _ ⟨_, _, _, _, _, _, _, _, _, _, _, _, _, _, _, rfl, HF.out⟩
    · have hst : S0 (d_ 11) ms w1 := by
        have n_ : d_ 7 = false := by
          cases e_ : d_ 7 with
          | false => rfl
          | true => have h2 := (F.q7 e_).2.1; rw [show d_ 1 = false from hd_] at h2; cases h2
        exact (F.st0 n_)
      have kk := kl1.out (d_ 11) ms w1 hst
      obtain ⟨kk0, kk1, kk2⟩ := kk
      clear hst
      have HF : Hid (rpl5F p A s dl a ai cs ci bp b7 bd off i q m n bb S0 S1 S2 (upd d_ 1) x19 (.agg #[.int .i64 (s.paper), .int .i64 (s.money), .slice a s.cards.length cs]) x21 x22 x23 x24 x25 x26 x18 x27 x28 x9 x10 ms r1 w1) := ⟨F.q3, F.q5, F.q6, fun h => ⟨(F.q7 h).1, rfl, (F.q7 h).2.2⟩, F.q8, F.q9, F.q10, fun h => ⟨(F.q12 h).1, rfl, (F.q12 h).2.2.1, (F.q12 h).2.2.2.1, (F.q12 h).2.2.2.2.1, (F.q12 h).2.2.2.2.2.1, (F.q12 h).2.2.2.2.2.2.1, (F.q12 h).2.2.2.2.2.2.2.1, (F.q12 h).2.2.2.2.2.2.2.2.1, (F.q12 h).2.2.2.2.2.2.2.2.2.1, (F.q12 h).2.2.2.2.2.2.2.2.2.2⟩, fun h => ⟨(F.q13 h).1, rfl, (F.q13 h).2.2.1, (F.q13 h).2.2.2.1, (F.q13 h).2.2.2.2.1, (F.q13 h).2.2.2.2.2.1, (F.q13 h).2.2.2.2.2.2.1, (F.q13 h).2.2.2.2.2.2.2.1, (F.q13 h).2.2.2.2.2.2.2.2.1, (F.q13 h).2.2.2.2.2.2.2.2.2.1, (F.q13 h).2.2.2.2.2.2.2.2.2.2.1, (F.q13 h).2.2.2.2.2.2.2.2.2.2.2.1, (F.q13 h).2.2.2.2.2.2.2.2.2.2.2.2⟩, F.f0, fun _ => rfl, F.f2, F.f3, F.f4, F.f5, F.f6, F.f7, F.f8, F.f9, F.f10, F.f11, F.f13, F.st0, F.st1, F.st2, F.mz⟩
      clear F
      go_simp
      exact HK.out _ _ ⟨_, _, _, _, _, _, _, _, _, _, _, _, _, _, _, rfl, HF.out⟩
    · have HF : Hid (rpl5F p A s dl a ai cs ci bp b7 bd off i q m n bb S0 S1 S2 (upd d_ 2) x19 x20 (.pointer (some ⟨bp, 9, none⟩)) x22 x23 x24 x25 x26 x18 x27 x28 x9 x10 ms r1 w1) := ⟨fun h => rfl, F.q5, F.q6, F.q7, F.q8, F.q9, F.q10, fun h => ⟨(F.q12 h).1, (F.q12 h).2.1, rfl, (F.q12 h).2.2.2.1, (F.q12 h).2.2.2.2.1, (F.q12 h).2.2.2.2.2.1, (F.q12 h).2.2.2.2.2.2.1, (F.q12 h).2.2.2.2.2.2.2.1, (F.q12 h).2.2.2.2.2.2.2.2.1, (F.q12 h).2.2.2.2.2.2.2.2.2.1, (F.q12 h).2.2.2.2.2.2.2.2.2.2⟩, fun h => ⟨(F.q13 h).1, (F.q13 h).2.1, rfl, (F.q13 h).2.2.2.1, (F.q13 h).2.2.2.2.1, (F.q13 h).2.2.2.2.2.1, (F.q13 h).2.2.2.2.2.2.1, (F.q13 h).2.2.2.2.2.2.2.1, (F.q13 h).2.2.2.2.2.2.2.2.1, (F.q13 h).2.2.2.2.2.2.2.2.2.1, (F.q13 h).2.2.2.2.2.2.2.2.2.2.1, (F.q13 h).2.2.2.2.2.2.2.2.2.2.2.1, (F.q13 h).2.2.2.2.2.2.2.2.2.2.2.2⟩, F.f0, F.f1, fun _ => rfl, F.f3, F.f4, F.f5, F.f6, F.f7, F.f8, F.f9, F.f10, F.f11, F.f13, F.st0, F.st1, F.st2, F.mz⟩
      clear F
      go_simp
      exact HK.out _ _ ⟨_, _, _, _, _, _, _, _, _, _, _, _, _, _, _, rfl, HF.out⟩
    · have hst : S0 (d_ 11) ms w1 := by
        have n_ : d_ 7 = false := by
          cases e_ : d_ 7 with
          | false => rfl
          | true => have h2 := (F.q5 (F.q6 (F.q7 e_).2.2)).1; rw [show d_ 3 = false from hd_] at h2; cases h2
        exact (F.st0 n_)
      have kk := kl3.out (d_ 11) ms w1 hst
      clear hst
      obtain rfl := F.f2 (by simp [hdep])
      have HF : Hid (rpl5F p A s dl a ai cs ci bp b7 bd off i q m n bb S0 S1 S2 (upd d_ 3) x19 x20 (.pointer (some ⟨bp, 9, none⟩)) (.slice (some ⟨bd, off, none⟩) p.deals.length A.cd) x23 x24 x25 x26 x18 x27 x28 x9 x10 ms r1 w1) := ⟨fun _ => (show _ from (by simp [hdep] : d_ 2 = true)), fun h => ⟨rfl, (F.q5 h).2⟩, F.q6, F.q7, F.q8, F.q9, F.q10, fun h => ⟨(F.q12 h).1, (F.q12 h).2.1, (F.q12 h).2.2.1, rfl, (F.q12 h).2.2.2.2.1, (F.q12 h).2.2.2.2.2.1, (F.q12 h).2.2.2.2.2.2.1, (F.q12 h).2.2.2.2.2.2.2.1, (F.q12 h).2.2.2.2.2.2.2.2.1, (F.q12 h).2.2.2.2.2.2.2.2.2.1, (F.q12 h).2.2.2.2.2.2.2.2.2.2⟩, fun h => ⟨(F.q13 h).1, (F.q13 h).2.1, (F.q13 h).2.2.1, rfl, (F.q13 h).2.2.2.2.1, (F.q13 h).2.2.2.2.2.1, (F.q13 h).2.2.2.2.2.2.1, (F.q13 h).2.2.2.2.2.2.2.1, (F.q13 h).2.2.2.2.2.2.2.2.1, (F.q13 h).2.2.2.2.2.2.2.2.2.1, (F.q13 h).2.2.2.2.2.2.2.2.2.2.1, (F.q13 h).2.2.2.2.2.2.2.2.2.2.2.1, (F.q13 h).2.2.2.2.2.2.2.2.2.2.2.2⟩, F.f0, F.f1, F.f2, fun _ => rfl, F.f4, F.f5, F.f6, F.f7, F.f8, F.f9, F.f10, F.f11, F.f13, F.st0, F.st1, F.st2, F.mz⟩
      clear F
      go_simp
      exact HK.out _ _ ⟨_, _, _, _, _, _, _, _, _, _, _, _, _, _, _, rfl, HF.out⟩
    · have HF : Hid (rpl5F p A s dl a ai cs ci bp b7 bd off i q m n bb S0 S1 S2 (upd d_ 4) x19 x20 x21 x22 (.int .i64 ((i : Int))) x24 x25 x26 x18 x27 x28 x9 x10 ms r1 w1) := ⟨F.q3, fun h => ⟨(F.q5 h).1, rfl⟩, F.q6, F.q7, F.q8, F.q9, F.q10, fun h => ⟨(F.q12 h).1, (F.q12 h).2.1, (F.q12 h).2.2.1, (F.q12 h).2.2.2.1, rfl, (F.q12 h).2.2.2.2.2.1, (F.q12 h).2.2.2.2.2.2.1, (F.q12 h).2.2.2.2.2.2.2.1, (F.q12 h).2.2.2.2.2.2.2.2.1, (F.q12 h).2.2.2.2.2.2.2.2.2.1, (F.q12 h).2.2.2.2.2.2.2.2.2.2⟩, fun h => ⟨(F.q13 h).1, (F.q13 h).2.1, (F.q13 h).2.2.1, (F.q13 h).2.2.2.1, rfl, (F.q13 h).2.2.2.2.2.1, (F.q13 h).2.2.2.2.2.2.1, (F.q13 h).2.2.2.2.2.2.2.1, (F.q13 h).2.2.2.2.2.2.2.2.1, (F.q13 h).2.2.2.2.2.2.2.2.2.1, (F.q13 h).2.2.2.2.2.2.2.2.2.2.1, (F.q13 h).2.2.2.2.2.2.2.2.2.2.2.1, (F.q13 h).2.2.2.2.2.2.2.2.2.2.2.2⟩, F.f0, F.f1, F.f2, F.f3, fun _ => rfl, F.f5, F.f6, F.f7, F.f8, F.f9, F.f10, F.f11, F.f13, F.st0, F.st1, F.st2, F.mz⟩
      clear F
      go_simp
      exact HK.out _ _ ⟨_, _, _, _, _, _, _, _, _, _, _, _, _, _, _, rfl, HF.out⟩
    · obtain rfl := F.f3 (by simp [hdep])
      obtain rfl := F.f4 (by simp [hdep])
      have HF : Hid (rpl5F p A s dl a ai cs ci bp b7 bd off i q m n bb S0 S1 S2 (upd d_ 5) x19 x20 x21 (.slice (some ⟨bd, off, none⟩) p.deals.length A.cd) (.int .i64 ((i : Int))) (.pointer (some ⟨bd, off + i * 6, none⟩)) x25 x26 x18 x27 x28 x9 x10 ms r1 w1) := ⟨F.q3, fun _ => ⟨(show _ from (by simp [hdep] : d_ 3 = true)), (show _ from (by simp [hdep] : d_ 4 = true))⟩, fun h => rfl, F.q7, F.q8, F.q9, F.q10, fun h => ⟨(F.q12 h).1, (F.q12 h).2.1, (F.q12 h).2.2.1, (F.q12 h).2.2.2.1, (F.q12 h).2.2.2.2.1, rfl, (F.q12 h).2.2.2.2.2.2.1, (F.q12 h).2.2.2.2.2.2.2.1, (F.q12 h).2.2.2.2.2.2.2.2.1, (F.q12 h).2.2.2.2.2.2.2.2.2.1, (F.q12 h).2.2.2.2.2.2.2.2.2.2⟩, fun h => ⟨(F.q13 h).1, (F.q13 h).2.1, (F.q13 h).2.2.1, (F.q13 h).2.2.2.1, (F.q13 h).2.2.2.2.1, rfl, (F.q13 h).2.2.2.2.2.2.1, (F.q13 h).2.2.2.2.2.2.2.1, (F.q13 h).2.2.2.2.2.2.2.2.1, (F.q13 h).2.2.2.2.2.2.2.2.2.1, (F.q13 h).2.2.2.2.2.2.2.2.2.2.1, (F.q13 h).2.2.2.2.2.2.2.2.2.2.2.1, (F.q13 h).2.2.2.2.2.2.2.2.2.2.2.2⟩, F.f0, F.f1, F.f2, F.f3, F.f4, fun _ => rfl, F.f6, F.f7, F.f8, F.f9, F.f10, F.f11, F.f13, F.st0, F.st1, F.st2, F.mz⟩
      clear F
      go_simp
      exact HK.out _ _ ⟨_, _, _, _, _, _, _, _, _, _, _, _, _, _, _, rfl, HF.out⟩
    · have hst : S0 (d_ 11) ms w1 := by
        have n_ : d_ 7 = false := by
          cases e_ : d_ 7 with
          | false => rfl
          | true => have h2 := (F.q7 e_).2.2; rw [show d_ 6 = false from hd_] at h2; cases h2
        exact (F.st0 n_)
      have kk := kl6.out (d_ 11) ms w1 hst
      obtain ⟨kk0, kk1, kk2, kk3, kk4, kk5⟩ := kk
      clear hst
      obtain rfl := F.f5 (by simp [hdep])
      have HF : Hid (rpl5F p A s dl a ai cs ci bp b7 bd off i q m n bb S0 S1 S2 (upd d_ 6) x19 x20 x21 x22 x23 (.pointer (some ⟨bd, off + i * 6, none⟩)) (.agg #[.int .i64 (dl.kind), .slice ai dl.forme.slots.length ci, .int .i64 (dl.forme.times), .int .i64 (dl.view), .int .i64 (dl.many), .int .i64 (dl.pence)]) x26 x18 x27 x28 x9 x10 ms r1 w1) := ⟨F.q3, F.q5, fun _ => (show _ from (by simp [hdep] : d_ 5 = true)), fun h => ⟨(F.q7 h).1, (F.q7 h).2.1, rfl⟩, F.q8, F.q9, F.q10, fun h => ⟨(F.q12 h).1, (F.q12 h).2.1, (F.q12 h).2.2.1, (F.q12 h).2.2.2.1, (F.q12 h).2.2.2.2.1, (F.q12 h).2.2.2.2.2.1, rfl, (F.q12 h).2.2.2.2.2.2.2.1, (F.q12 h).2.2.2.2.2.2.2.2.1, (F.q12 h).2.2.2.2.2.2.2.2.2.1, (F.q12 h).2.2.2.2.2.2.2.2.2.2⟩, fun h => ⟨(F.q13 h).1, (F.q13 h).2.1, (F.q13 h).2.2.1, (F.q13 h).2.2.2.1, (F.q13 h).2.2.2.2.1, (F.q13 h).2.2.2.2.2.1, rfl, (F.q13 h).2.2.2.2.2.2.2.1, (F.q13 h).2.2.2.2.2.2.2.2.1, (F.q13 h).2.2.2.2.2.2.2.2.2.1, (F.q13 h).2.2.2.2.2.2.2.2.2.2.1, (F.q13 h).2.2.2.2.2.2.2.2.2.2.2.1, (F.q13 h).2.2.2.2.2.2.2.2.2.2.2.2⟩, F.f0, F.f1, F.f2, F.f3, F.f4, F.f5, fun _ => rfl, F.f7, F.f8, F.f9, F.f10, F.f11, F.f13, F.st0, F.st1, F.st2, F.mz⟩
      clear F
      go_simp
      exact HK.out _ _ ⟨_, _, _, _, _, _, _, _, _, _, _, _, _, _, _, rfl, HF.out⟩
    · have hS := F.st0  hd_
      obtain rfl := F.f0 (by simp [hdep])
      obtain rfl := F.f1 (by simp [hdep])
      obtain rfl := F.f6 (by simp [hdep])
      have hc := kc7.out (d_ 11) ms w1 hS
      have HF := Lib.hid F
      clear F
      go_simp
      refine ⟨trivial, rfl, wideAt_calls (hc.mono ?_)⟩
      rintro e w5 ⟨v_, rfl, hres⟩
      exact HK.out _ _ ⟨_, _, _, _, _, _, _, _, _, _, _, _, _, ms, v_, rfl, ⟨HF.out.q3, HF.out.q5, HF.out.q6, fun _ => ⟨(show _ from (by simp [hdep] : d_ 0 = true)), (show _ from (by simp [hdep] : d_ 1 = true)), (show _ from (by simp [hdep] : d_ 6 = true))⟩, fun h => rfl, HF.out.q9, HF.out.q10, fun h => ⟨(HF.out.q12 h).1, (HF.out.q12 h).2.1, (HF.out.q12 h).2.2.1, (HF.out.q12 h).2.2.2.1, (HF.out.q12 h).2.2.2.2.1, (HF.out.q12 h).2.2.2.2.2.1, (HF.out.q12 h).2.2.2.2.2.2.1, rfl, (HF.out.q12 h).2.2.2.2.2.2.2.2.1, (HF.out.q12 h).2.2.2.2.2.2.2.2.2.1, (HF.out.q12 h).2.2.2.2.2.2.2.2.2.2⟩, fun h => ⟨(HF.out.q13 h).1, (HF.out.q13 h).2.1, (HF.out.q13 h).2.2.1, (HF.out.q13 h).2.2.2.1, (HF.out.q13 h).2.2.2.2.1, (HF.out.q13 h).2.2.2.2.2.1, (HF.out.q13 h).2.2.2.2.2.2.1, rfl, (HF.out.q13 h).2.2.2.2.2.2.2.2.1, (HF.out.q13 h).2.2.2.2.2.2.2.2.2.1, (HF.out.q13 h).2.2.2.2.2.2.2.2.2.2.1, (HF.out.q13 h).2.2.2.2.2.2.2.2.2.2.2.1, (HF.out.q13 h).2.2.2.2.2.2.2.2.2.2.2.2⟩, HF.out.f0, HF.out.f1, HF.out.f2, HF.out.f3, HF.out.f4, HF.out.f5, HF.out.f6, fun _ => rfl, fun h => (by have h2 : d_ 7 = true := (HF.out.q8 h); rw [show d_ 7 = false from hd_] at h2; cases h2), fun h => (by have h2 : d_ 7 = true := (HF.out.q8 (HF.out.q9 h)); rw [show d_ 7 = false from hd_] at h2; cases h2), HF.out.f10, HF.out.f11, HF.out.f13, fun h => (by simp [upd] at h), fun _ _ => hres, fun h => (by have h2 : d_ 7 = true := (HF.out.q12 h).2.2.2.2.2.2.2.1; rw [show d_ 7 = false from hd_] at h2; cases h2), HF.out.mz⟩⟩
    · obtain rfl := F.f7 (by simp [hdep])
      have HF : Hid (rpl5F p A s dl a ai cs ci bp b7 bd off i q m n bb S0 S1 S2 (upd d_ 8) x19 x20 x21 x22 x23 x24 x25 (.tuple #[.agg #[.int .i64 (q), .int .i64 (m), .slice r1.1 n r1.2], .bool bb]) (.tuple #[.agg #[.int .i64 (q), .int .i64 (m), .slice r1.1 n r1.2], .bool bb]) x27 x28 x9 x10 ms r1 w1) := ⟨F.q3, F.q5, F.q6, F.q7, fun _ => (show _ from (by simp [hdep] : d_ 7 = true)), fun h => rfl, fun h => rfl, fun h => ⟨(F.q12 h).1, (F.q12 h).2.1, (F.q12 h).2.2.1, (F.q12 h).2.2.2.1, (F.q12 h).2.2.2.2.1, (F.q12 h).2.2.2.2.2.1, (F.q12 h).2.2.2.2.2.2.1, (F.q12 h).2.2.2.2.2.2.2.1, rfl, (F.q12 h).2.2.2.2.2.2.2.2.2.1, (F.q12 h).2.2.2.2.2.2.2.2.2.2⟩, fun h => ⟨(F.q13 h).1, (F.q13 h).2.1, (F.q13 h).2.2.1, (F.q13 h).2.2.2.1, (F.q13 h).2.2.2.2.1, (F.q13 h).2.2.2.2.2.1, (F.q13 h).2.2.2.2.2.2.1, (F.q13 h).2.2.2.2.2.2.2.1, rfl, (F.q13 h).2.2.2.2.2.2.2.2.2.1, (F.q13 h).2.2.2.2.2.2.2.2.2.2.1, (F.q13 h).2.2.2.2.2.2.2.2.2.2.2.1, (F.q13 h).2.2.2.2.2.2.2.2.2.2.2.2⟩, F.f0, F.f1, F.f2, F.f3, F.f4, F.f5, F.f6, F.f7, fun _ => rfl, F.f9, F.f10, F.f11, F.f13, F.st0, F.st1, F.st2, F.mz⟩
      clear F
      go_simp
      exact HK.out _ _ ⟨_, _, _, _, _, _, _, _, _, _, _, _, _, _, _, rfl, HF.out⟩
    · obtain rfl := F.f8 (by simp [hdep])
      have HF : Hid (rpl5F p A s dl a ai cs ci bp b7 bd off i q m n bb S0 S1 S2 (upd d_ 9) x19 x20 x21 x22 x23 x24 x25 x26 (.tuple #[.agg #[.int .i64 (q), .int .i64 (m), .slice r1.1 n r1.2], .bool bb]) (.agg #[.int .i64 (q), .int .i64 (m), .slice r1.1 n r1.2]) x28 x9 x10 ms r1 w1) := ⟨F.q3, F.q5, F.q6, F.q7, F.q8, fun _ => (show _ from (by simp [hdep] : d_ 8 = true)), F.q10, fun h => ⟨(F.q12 h).1, (F.q12 h).2.1, (F.q12 h).2.2.1, (F.q12 h).2.2.2.1, (F.q12 h).2.2.2.2.1, (F.q12 h).2.2.2.2.2.1, (F.q12 h).2.2.2.2.2.2.1, (F.q12 h).2.2.2.2.2.2.2.1, (F.q12 h).2.2.2.2.2.2.2.2.1, rfl, (F.q12 h).2.2.2.2.2.2.2.2.2.2⟩, fun h => ⟨(F.q13 h).1, (F.q13 h).2.1, (F.q13 h).2.2.1, (F.q13 h).2.2.2.1, (F.q13 h).2.2.2.2.1, (F.q13 h).2.2.2.2.2.1, (F.q13 h).2.2.2.2.2.2.1, (F.q13 h).2.2.2.2.2.2.2.1, (F.q13 h).2.2.2.2.2.2.2.2.1, rfl, (F.q13 h).2.2.2.2.2.2.2.2.2.2.1, (F.q13 h).2.2.2.2.2.2.2.2.2.2.2.1, (F.q13 h).2.2.2.2.2.2.2.2.2.2.2.2⟩, F.f0, F.f1, F.f2, F.f3, F.f4, F.f5, F.f6, F.f7, F.f8, fun _ => rfl, F.f10, F.f11, F.f13, F.st0, F.st1, F.st2, F.mz⟩
      clear F
      go_simp
      exact HK.out _ _ ⟨_, _, _, _, _, _, _, _, _, _, _, _, _, _, _, rfl, HF.out⟩
    · obtain rfl := F.f8 (by simp [hdep])
      have HF : Hid (rpl5F p A s dl a ai cs ci bp b7 bd off i q m n bb S0 S1 S2 (upd d_ 10) x19 x20 x21 x22 x23 x24 x25 x26 (.tuple #[.agg #[.int .i64 (q), .int .i64 (m), .slice r1.1 n r1.2], .bool bb]) x27 (.bool bb) x9 x10 ms r1 w1) := ⟨F.q3, F.q5, F.q6, F.q7, F.q8, F.q9, fun _ => (show _ from (by simp [hdep] : d_ 8 = true)), F.q12, fun h => ⟨(F.q13 h).1, (F.q13 h).2.1, (F.q13 h).2.2.1, (F.q13 h).2.2.2.1, (F.q13 h).2.2.2.2.1, (F.q13 h).2.2.2.2.2.1, (F.q13 h).2.2.2.2.2.2.1, (F.q13 h).2.2.2.2.2.2.2.1, (F.q13 h).2.2.2.2.2.2.2.2.1, (F.q13 h).2.2.2.2.2.2.2.2.2.1, rfl, (F.q13 h).2.2.2.2.2.2.2.2.2.2.2.1, (F.q13 h).2.2.2.2.2.2.2.2.2.2.2.2⟩, F.f0, F.f1, F.f2, F.f3, F.f4, F.f5, F.f6, F.f7, F.f8, F.f9, fun _ => rfl, F.f11, F.f13, F.st0, F.st1, F.st2, F.mz⟩
      clear F
      go_simp
      exact HK.out _ _ ⟨_, _, _, _, _, _, _, _, _, _, _, _, _, _, _, rfl, HF.out⟩
    · have HF : Hid (rpl5F p A s dl a ai cs ci bp b7 bd off i q m n bb S0 S1 S2 (upd d_ 11) x19 x20 x21 x22 x23 x24 x25 x26 x18 x27 x28 (.pointer (some ⟨w1.heap.size, 0, none⟩)) x10 w1.heap.size r1 (w1.alloc (.cells #[.int .i64 0, .int .i64 0, .slice none 0 0] 48))) := ⟨F.q3, F.q5, F.q6, F.q7, F.q8, F.q9, F.q10, fun h => ⟨(F.q12 h).1, (F.q12 h).2.1, (F.q12 h).2.2.1, (F.q12 h).2.2.2.1, (F.q12 h).2.2.2.2.1, (F.q12 h).2.2.2.2.2.1, (F.q12 h).2.2.2.2.2.2.1, (F.q12 h).2.2.2.2.2.2.2.1, (F.q12 h).2.2.2.2.2.2.2.2.1, (F.q12 h).2.2.2.2.2.2.2.2.2.1, rfl⟩, fun h => ⟨(F.q13 h).1, (F.q13 h).2.1, (F.q13 h).2.2.1, (F.q13 h).2.2.2.1, (F.q13 h).2.2.2.2.1, (F.q13 h).2.2.2.2.2.1, (F.q13 h).2.2.2.2.2.2.1, (F.q13 h).2.2.2.2.2.2.2.1, (F.q13 h).2.2.2.2.2.2.2.2.1, (F.q13 h).2.2.2.2.2.2.2.2.2.1, (F.q13 h).2.2.2.2.2.2.2.2.2.2.1, rfl, (F.q13 h).2.2.2.2.2.2.2.2.2.2.2.2⟩, F.f0, F.f1, F.f2, F.f3, F.f4, F.f5, F.f6, F.f7, F.f8, F.f9, F.f10, fun _ => rfl, F.f13, fun b => ks0.out w1 (by have h := F.st0 b; rw [show d_ 11 = false from hd_, F.mz hd_] at h; exact h), fun a b => ks1.out r1 w1 (by have h := F.st1 a b; rw [show d_ 11 = false from hd_, F.mz hd_] at h; exact h), fun a => (by have h2 : d_ 11 = true := (F.q12 a).2.2.2.2.2.2.2.2.2.2; rw [show d_ 11 = false from hd_] at h2; cases h2), fun h => (by simp [upd] at h)⟩
      clear F
      go_simp
      exact HK.out _ _ ⟨_, _, _, _, _, _, _, _, _, _, _, _, _, _, _, rfl, HF.out⟩
    · have hS := F.st1 (by simp [hdep] : d_ 7 = true) hd_
      rw [show d_ 11 = true from (by simp [hdep] : d_ 11 = true)] at hS
      obtain rfl := F.f9 (by simp [hdep])
      obtain rfl := F.f11 (by simp [hdep])
      obtain ⟨⟨ku0, kcell0⟩, kfr0, ⟨ku1, kcell1⟩, kfr1, ⟨ku2, kcell2⟩, kfr2, hres⟩ := kc12.out ms r1 w1 hS
      have HF : Hid (rpl5F p A s dl a ai cs ci bp b7 bd off i q m n bb S0 S1 S2 (upd d_ 12) x19 x20 x21 x22 x23 x24 x25 x26 x18 (.agg #[.int .i64 (q), .int .i64 (m), .slice r1.1 n r1.2]) x28 (.pointer (some ⟨ms, 0, none⟩)) x10 ms r1 (((w1.setCell ⟨ms, 0, none⟩ (.int .i64 (q))).setCell ⟨ms, 1, none⟩ (.int .i64 (m))).setCell ⟨ms, 2, none⟩ (.slice r1.1 n r1.2))) := ⟨F.q3, F.q5, F.q6, F.q7, F.q8, F.q9, F.q10, fun _ => ⟨(show _ from (by simp [hdep] : d_ 0 = true)), (show _ from (by simp [hdep] : d_ 1 = true)), (show _ from (by simp [hdep] : d_ 2 = true)), (show _ from (by simp [hdep] : d_ 3 = true)), (show _ from (by simp [hdep] : d_ 4 = true)), (show _ from (by simp [hdep] : d_ 5 = true)), (show _ from (by simp [hdep] : d_ 6 = true)), (show _ from (by simp [hdep] : d_ 7 = true)), (show _ from (by simp [hdep] : d_ 8 = true)), (show _ from (by simp [hdep] : d_ 9 = true)), (show _ from (by simp [hdep] : d_ 11 = true))⟩, fun h => ⟨(F.q13 h).1, (F.q13 h).2.1, (F.q13 h).2.2.1, (F.q13 h).2.2.2.1, (F.q13 h).2.2.2.2.1, (F.q13 h).2.2.2.2.2.1, (F.q13 h).2.2.2.2.2.2.1, (F.q13 h).2.2.2.2.2.2.2.1, (F.q13 h).2.2.2.2.2.2.2.2.1, (F.q13 h).2.2.2.2.2.2.2.2.2.1, (F.q13 h).2.2.2.2.2.2.2.2.2.2.1, (F.q13 h).2.2.2.2.2.2.2.2.2.2.2.1, rfl⟩, F.f0, F.f1, F.f2, F.f3, F.f4, F.f5, F.f6, F.f7, F.f8, F.f9, F.f10, F.f11, F.f13, fun h => (by have h2 : d_ 7 = false := h; rw [(by simp [hdep] : d_ 7 = true)] at h2; cases h2), fun _ h => (by simp [upd] at h), fun _ => (by rw [show upd d_ 12 11 = true from (by simp [hdep] : d_ 11 = true)]; exact hres), F.mz⟩
      clear F hS hres
      go_simp
      exact HK.out _ _ ⟨_, _, _, _, _, _, _, _, _, _, _, _, _, _, _, rfl, HF.out⟩
    · obtain rfl := F.f10 (by simp [hdep])
      have HF : Hid (rpl5F p A s dl a ai cs ci bp b7 bd off i q m n bb S0 S1 S2 (upd d_ 13) x19 x20 x21 x22 x23 x24 x25 x26 x18 x27 (.bool bb) x9 (.bool bb) ms r1 w1) := ⟨F.q3, F.q5, F.q6, F.q7, F.q8, F.q9, F.q10, F.q12, fun _ => ⟨(show _ from (by simp [hdep] : d_ 0 = true)), (show _ from (by simp [hdep] : d_ 1 = true)), (show _ from (by simp [hdep] : d_ 2 = true)), (show _ from (by simp [hdep] : d_ 3 = true)), (show _ from (by simp [hdep] : d_ 4 = true)), (show _ from (by simp [hdep] : d_ 5 = true)), (show _ from (by simp [hdep] : d_ 6 = true)), (show _ from (by simp [hdep] : d_ 7 = true)), (show _ from (by simp [hdep] : d_ 8 = true)), (show _ from (by simp [hdep] : d_ 9 = true)), (show _ from (by simp [hdep] : d_ 10 = true)), (show _ from (by simp [hdep] : d_ 11 = true)), (show _ from (by simp [hdep] : d_ 12 = true))⟩, F.f0, F.f1, F.f2, F.f3, F.f4, F.f5, F.f6, F.f7, F.f8, F.f9, F.f10, F.f11, fun _ => rfl, F.st0, F.st1, F.st2, F.mz⟩
      clear F
      go_simp
      exact HK.out _ _ ⟨_, _, _, _, _, _, _, _, _, _, _, _, _, _, _, rfl, HF.out⟩
  · rintro d_ a_ w1 hall ⟨x19, x20, x21, x22, x23, x24, x25, x26, x18, x27, x28, x9, x10, ms, r1, rfl, F⟩
    have hall' : ∀ k, k < 14 → d_ k = true := hall
    obtain rfl := F.f0 (hall' 0 (by decide))
    obtain rfl := F.f1 (hall' 1 (by decide))
    obtain rfl := F.f2 (hall' 2 (by decide))
    obtain rfl := F.f3 (hall' 3 (by decide))
    obtain rfl := F.f4 (hall' 4 (by decide))
    obtain rfl := F.f5 (hall' 5 (by decide))
    obtain rfl := F.f6 (hall' 6 (by decide))
    obtain rfl := F.f7 (hall' 7 (by decide))
    obtain rfl := F.f8 (hall' 8 (by decide))
    obtain rfl := F.f9 (hall' 9 (by decide))
    obtain rfl := F.f10 (hall' 10 (by decide))
    obtain rfl := F.f11 (hall' 11 (by decide))
    obtain rfl := F.f13 (hall' 13 (by decide))
    have hst := F.st2 (hall' 12 (by decide))
    rw [show d_ 11 = true from hall' 11 (by decide)] at hst
    exact HQ.out ms r1 w1 hst
end Go.Proofs.Ytjkhclijmcmdjaa
namespace Go.Proofs.Ytjkhclijmcmdjaa
open Go.RowKit
set_option linter.unusedVariables false
set_option linter.unusedSimpArgs false
/-- What the reference's play answers. -/
def PlayR (W : World) (r : Shf × Nat × Bool) (e : Ending) (w' : World) : Prop :=
  ∃ a c, e = .returned (.tuple #[.agg #[.int .i64 r.1.paper, .int .i64 r.1.money, .slice a r.1.cards.length c], .int .i64 (r.2.1 : Int), .bool r.2.2]) ∧ IsSpns w' a r.1.cards ∧ Below W.heap.size W w' ∧ ∀ gb off, a = some ⟨gb, off, none⟩ → W.heap.size ≤ gb
/-- While the reference plays. -/
structure PlyI (W : World) (bp b4 b7 : Nat) (p : Prs) (A : PrsA) (L : List Dl) (i : Nat) (s : Shf) (a : Option Addr) (cs : Nat) (w : World) : Prop where
  h2 : w.heap[bp]? = some (.cells (p.arr A) 27 (0, 0))
  h4 : w.heap[b4]? = some (.cells #[.int .i64 0, .int .i64 0, .slice none 0 0] 48 (0, 0))
  h7 : w.heap[b7]? = some (.cells #[.int .i64 s.paper, .int .i64 s.money, .slice a s.cards.length cs] 48 (0, 0))
  sp : IsSpns w a s.cards
  le : Below W.heap.size W w
  lay : W.heap.size ≤ bp ∧ bp < b4 ∧ b4 < b7
  run : p.runF p.first L 0 = p.runF s (L.drop i) i
  len : s.cards.length = p.wanted.length
  bd : SBd s (2251799813685248 + i * 2199023255552)
  ne : ∀ gb off, a = some ⟨gb, off, none⟩ → gb ≠ b4 ∧ gb ≠ b7 ∧ W.heap.size ≤ gb
theorem PlyI.mono {W : World} {bp b4 b7 : Nat} {p : Prs} {A : PrsA} {L : List Dl} {i : Nat} {s : Shf} {a : Option Addr} {cs : Nat} {w w' : World} (h : PlyI W bp b4 b7 p A L i s a cs w) (hb : Below w.heap.size w w') : PlyI W bp b4 b7 p A L i s a cs w' :=
  ⟨(hb.block _ (heap_lt h.h2)).trans h.h2, (hb.block _ (heap_lt h.h4)).trans h.h4, (hb.block _ (heap_lt h.h7)).trans h.h7, h.sp.mono hb, h.le.trans (hb.mono h.le.size), h.lay, h.run, h.len, h.bd, h.ne⟩
theorem res_48it {fn : Func} {u v x : Tmp} (h : fn.results = #[.cell u 48, .tmp v, .tmp x]) (tmps : Array Value) {w : World} {b : Nat} {x0 y0 z0 r t : Value} (hp : tmps.getD u undef = .pointer (some ⟨b, 0, none⟩)) (hv : tmps.getD v undef = r) (hx : tmps.getD x undef = t)
    (hh : w.heap[b]? = some (.cells #[x0, y0, z0] 48 (0, 0))) :
    (results fn tmps).run Try.prog w = .ok (.tuple #[.agg #[x0, y0, z0], r, t]) w := by
  subst hv hx
  obtain ⟨h1, h2, h3⟩ := sh_cells hh
  have hp' : tmps[u]?.getD undef = .pointer (some ⟨b, 0, none⟩) := by simpa using hp
  simp [results, h, hp', h1, h2, h3, go_sem]
theorem PlyI.out {W : World} {bp b4 b7 : Nat} {p : Prs} {A : PrsA} {L : List Dl} {i : Nat} {s : Shf} {a : Option Addr} {cs : Nat} {w : World} (h : PlyI W bp b4 b7 p A L i s a cs w) (h0 : 0 < s.cards.length) :
    IsSpns (set3 w b4 (.int .i64 s.paper) (.int .i64 s.money) (.slice a s.cards.length cs)) a s.cards ∧ ((set3 w b4 (.int .i64 s.paper) (.int .i64 s.money) (.slice a s.cards.length cs)).heap[b4]? = some (.cells #[.int .i64 s.paper, .int .i64 s.money, .slice a s.cards.length cs] 48 (0, 0))) ∧ Below W.heap.size W (set3 w b4 (.int .i64 s.paper) (.int .i64 s.money) (.slice a s.cards.length cs)) :=
  ⟨spns_other h.sp fun gb o hg => set3_other (h.ne gb o hg).1, set3_at h.h4, set3_below h.le (by have := h.lay; omega)⟩
set_option maxRecDepth 100000 in
set_option maxHeartbeats 4000000 in
theorem rplay59 {p : Prs} {A : PrsA} {k : Nat} {w : World} (hP : IsPrs w p A) (hS : p.Small) (hV : p.valid = true) (hk : k ≤ p.deals.length) :
    Calls Try.prog 59 #[p.v A, .int .i64 (k : Int)] w (PlayR w (p.runF p.first (p.deals.take k) 0)) := by
  have HX := Lib.hid (alloc2 w (p.arr A) #[.int .i64 0, .int .i64 0, .slice none 0 0] 27 48)
  have HS := Lib.hid (And.intro hP (And.intro hS (And.intro hV hk)))
  have hw4 := wanted_of hV
  have hd60 := hS.deals
  have hk2 : k ≤ 60 := by omega
  have hpp := pence_of hV
  clear hP hS hV hk
  go_enter Try.func59, Try.ntmps59
  refine wp_seq_hid ?_
  intro K0 HK0
  go_wp2_with fail
  refine HK0.out _ _ ?_
  clear HK0 K0
  revert HX
  generalize (w.alloc (.cells (p.arr A) 27)).alloc (.cells #[.int .i64 0, .int .i64 0, .slice none 0 0] 48) = w1
  generalize h4 : w.heap.size + 1 = b4
  generalize h3 : w.heap.size = bp
  intro HX
  have HL := Lib.hid (And.intro h3 h4)
  clear h3 h4
  obtain ⟨m0, m1, m2, m3, m4, m5, m6, m7, m8, m9⟩ := prs_cells HX.out.1
  refine wp_seq_hid ?_
  intro K1 HK1
  go_wp2_with fail
  refine (rfirst63 (by omega)).mono ?_
  rintro e w2 ⟨rfl, hsp, hb⟩
  clear m0 m1 m2 m3 m4 m5 m6 m7 m8 m9
  go_wp2_with fail
  refine HK1.out _ _ ?_
  clear HK1 K1
  have q7 := World.alloc_heap_new w2 (.cells #[.int .i64 p.paper, .int .i64 p.money, .slice (some ⟨w1.heap.size + 2, 0, none⟩) p.wanted.length p.wanted.length] 48)
  have hb7 : Below w2.heap.size w2 (w2.alloc (.cells #[.int .i64 p.paper, .int .i64 p.money, .slice (some ⟨w1.heap.size + 2, 0, none⟩) p.wanted.length p.wanted.length] 48)) := (Below.refl _ _).alloc (Nat.le_refl _) _
  have HI : Hid (PlyI w bp b4 w2.heap.size p A (p.deals.take k) 0 p.first (some ⟨w1.heap.size + 2, 0, none⟩) p.wanted.length (w2.alloc (.cells #[.int .i64 p.paper, .int .i64 p.money, .slice (some ⟨w1.heap.size + 2, 0, none⟩) p.wanted.length p.wanted.length] 48))) := by
    have hl := HL.out
    have l1 := heap_lt HX.out.2.1
    have l2 := hb.size
    have l3 := HX.out.2.2
    rw [← hl.1] at l3
    have hlen : p.first.cards.length = p.wanted.length := by simp [Prs.first]
    refine ⟨(hb7.block _ (by omega)).trans ((hb.block _ (heap_lt HX.out.1)).trans HX.out.1), (hb7.block _ (by omega)).trans ((hb.block _ l1).trans HX.out.2.1), by rw [hlen]; exact q7, hsp.mono hb7, l3.trans ((hb.mono l3.size).trans (hb7.mono (by omega))), by omega, by simp, hlen, ?_, ?_⟩
    rotate_left
    · have hg0 := spns_lt hsp (by simp; omega)
      have l9 := l3.size
      exact fun gb o hg => by cases hg; omega
    refine ⟨by show _ ∧ _; simp only [Prs.first]; omega, by show _ ∧ _; simp only [Prs.first]; omega, ?_⟩
    intro v hv
    have e : gs p.first.cards v = ⟨0, 0⟩ := by rw [gs_get hv]; simp [Prs.first]
    simp only [e]
    omega
  clear q7 hb7 hb hsp HX
  revert HI
  generalize w2.alloc (.cells #[.int .i64 p.paper, .int .i64 p.money, .slice (some ⟨w1.heap.size + 2, 0, none⟩) p.wanted.length p.wanted.length] 48) = w3
  generalize w2.heap.size = b7
  generalize w1.heap.size + 2 = g0
  intro HI
  refine wp_seq_hid ?_
  intro K2 HK2
  go_wp2_with fail
  go_loopw [8] (fun x wr => ∃ (i : Nat) (sk : Shf) (a : Option Addr) (cg : Nat), i ≤ k ∧ x = .int .i64 i ∧ Hid (PlyI w bp b4 b7 p A (p.deals.take k) i sk a cg wr)) (fun x _ => k - (intOf x).toNat)
  case atStart => exact ⟨0, _, _, _, by omega, rfl, HI.out⟩
  case round =>
    obtain ⟨i, sk, a, cg, hik, rfl, HW⟩ := hrel
    by_cases hlt : i < k
    · have HLT := Lib.hid hlt
      have hlk : i < p.deals.length := by have := HS.out.2.2.2; omega
      obtain ⟨bd, off, hab, ai, ci, c0, c1, c2, c3, c4, c5, c6⟩ := (HS.out.1.mono HW.out.le).deals i hlk
      have HAB := Lib.hid hab
      have HLK := Lib.hid hlk
      have HDR : Hid ((p.deals.take k).drop i = gd p.deals i :: (p.deals.take k).drop (i + 1)) := by
        have h := drop_gd (l := p.deals.take k) (k := i) (by rw [List.length_take]; omega)
        have e : gd (p.deals.take k) i = gd p.deals i := by simp [gd, List.getElem?_take, hlt]
        rw [Hid, h, e]
      have hmem : gd p.deals i ∈ p.deals := by simp [gd, hlk]
      have HDO := Lib.hid (deals_of HS.out.2.2.1 _ hmem)
      have HC := Lib.hid (And.intro c0 (And.intro c1 (And.intro c2 (And.intro c3 (And.intro c4 (And.intro c5 c6))))))
      clear hab hmem c0 c1 c2 c3 c4 c5 c6
      revert HDR HDO HC
      generalize gd p.deals i = d
      intro HDR HDO HC
      obtain ⟨t, ht⟩ : ∃ t, (p.deal sk d).getD sk = t := ⟨_, rfl⟩
      obtain ⟨bb, hbb⟩ : ∃ b, (p.deal sk d).isSome = b := ⟨_, rfl⟩
      have HT := Lib.hid (And.intro ht hbb)
      clear ht hbb
      go_upto_region 5 with fail
      refine wpIn_wide.1 (rpl5 (p := p) (A := A) (s := sk) (dl := d) (a := a) (ai := ai) (cs := cg) (ci := ci) (bp := bp) (b7 := b7) (bd := bd) (off := off) (i := i) (q := t.paper) (m := t.money) (n := t.cards.length) (bb := bb)
        (S0 := fun fs ms v => Below wr.heap.size wr v ∧ (fs = true → v.heap[ms]? = some (.cells #[.int .i64 0, .int .i64 0, .slice none 0 0] 48 (0, 0)) ∧ wr.heap.size ≤ ms))
        (S1 := fun fs ms r v => Below wr.heap.size wr v ∧ (fs = true → v.heap[ms]? = some (.cells #[.int .i64 0, .int .i64 0, .slice none 0 0] 48 (0, 0)) ∧ wr.heap.size ≤ ms) ∧ (bb = true → 0 < t.cards.length ∧ IsSpns v r.1 t.cards ∧ ∀ gb o, r.1 = some ⟨gb, o, none⟩ → wr.heap.size ≤ gb ∧ (fs = true → gb ≠ ms)))
        (S2 := fun fs ms r v => Below wr.heap.size wr v ∧ (v.heap[ms]? = some (.cells #[.int .i64 t.paper, .int .i64 t.money, .slice r.1 t.cards.length r.2] 48 (0, 0)) ∧ wr.heap.size ≤ ms) ∧ (bb = true → 0 < t.cards.length ∧ IsSpns v r.1 t.cards ∧ ∀ gb o, r.1 = some ⟨gb, o, none⟩ → wr.heap.size ≤ gb))
        hlk (by omega) ?h0 ?l0 ?l1 ?l3 ?l6 ?c7 ?s0 ?s1 ?c12 ?hQ)
      case h0 => exact ⟨(Below.refl _ _).drew, fun h => by cases h⟩
      case l0 =>
        intro fs ms v h
        have hc := prs_cells (HW.out.mono h.1).h2
        exact ⟨hc.c0, hc.c1, hc.c2, hc.c3, hc.c4, hc.c5, hc.c6, hc.c7, hc.c8, hc.c9⟩
      case l1 => exact fun fs ms v h => sh_cells (HW.out.mono h.1).h7
      case l3 =>
        intro fs ms v h
        have hc := (prs_cells (HW.out.mono h.1).h2).c9
        rw [HAB.out] at hc
        exact hc
      case l6 =>
        intro fs ms v h
        obtain ⟨c0, c1, c2, c3, c4, c5, c6⟩ := HC.out
        exact ⟨cell_stays h.1 c0, cell_stays h.1 c1, cell_stays h.1 c2, cell_stays h.1 c3, cell_stays h.1 c4, cell_stays h.1 c5⟩
      case c7 =>
        intro fs ms v h
        have hi60 : (i : Int) ≤ 60 := by omega
        have hc := rafter64 (p := p) (A := A) (cs := cg) (cd := ci) (HW.out.mono h.1).sp (HC.out.2.2.2.2.2.2.mono h.1) HS.out.2.2.1 HDO.out HW.out.len (HW.out.bd.le (by omega))
        refine hc.mono ?_
        rintro e w' ⟨a', c', he, hsp, hb, hfr⟩
        refine ⟨(a', c'), ?_, h.1.trans (hb.mono h.1.size), fun hf => ⟨(hb.block _ (heap_lt (h.2 hf).1)).trans (h.2 hf).1, (h.2 hf).2⟩, fun hb2 => ?_⟩
        · rw [he, HT.out.1, HT.out.2]
        · have hsome : (p.deal sk d).isSome = true := by rw [HT.out.2]; exact hb2
          obtain ⟨t', ht'⟩ := Option.isSome_iff_exists.1 hsome
          have htt : t' = t := by rw [← HT.out.1, ht']; rfl
          subst htt
          refine ⟨by rw [deal_len ht', HW.out.len]; omega, by rw [ht'] at hsp; exact hsp, fun gb o hg => ?_⟩
          have h5 := hfr hsome gb o hg
          have h6 := h.1.size
          exact ⟨by omega, fun hf => by have := heap_lt (h.2 hf).1; omega⟩
      case s0 =>
        intro v h
        have hba : Below v.heap.size v (v.alloc (.cells #[.int .i64 0, .int .i64 0, .slice none 0 0] 48)) := (Below.refl _ _).alloc (Nat.le_refl _) _
        exact ⟨h.1.trans (hba.mono h.1.size), fun _ => ⟨World.alloc_heap_new v _, h.1.size⟩⟩
      case s1 =>
        intro r v h
        have hba : Below v.heap.size v (v.alloc (.cells #[.int .i64 0, .int .i64 0, .slice none 0 0] 48)) := (Below.refl _ _).alloc (Nat.le_refl _) _
        refine ⟨h.1.trans (hba.mono h.1.size), fun _ => ⟨World.alloc_heap_new v _, h.1.size⟩, fun hb2 => ?_⟩
        obtain ⟨h1, h2, h3⟩ := h.2.2 hb2
        refine ⟨h1, h2.mono hba, fun gb o hg => ⟨(h3 gb o hg).1, fun _ => ?_⟩⟩
        rw [hg] at h2
        have := spns_lt h2 h1
        omega
      case c12 =>
        intro ms r v h
        obtain ⟨hm, hge⟩ := h.2.1 rfl
        have fz : ∀ j, v.frozen? ⟨ms, j, none⟩ = false := fun j => frozen_of_heap hm
        refine ⟨⟨_, by rw [cell_of_heap hm]; rfl⟩, fz 0, ⟨_, by rw [cell_of_heap hm]; rfl⟩, fz 1, ⟨_, by rw [cell_of_heap hm]; rfl⟩, fz 2, set3_below h.1 hge, ⟨set3_at hm, hge⟩, fun hb2 => ?_⟩
        obtain ⟨h1, h2, h3⟩ := h.2.2 hb2
        exact ⟨h1, spns_other h2 fun gb o hg => set3_other ((h3 gb o hg).2 rfl), fun gb o hg => (h3 gb o hg).1⟩
      intro ms r1 w6 h6
      have H6 := Lib.hid h6
      have HW6 := Lib.hid (HW.out.mono h6.1)
      have hl7 := heap_lt HW.out.h7
      have HMS : Hid (b7 < ms) := by have := h6.2.1.2; show b7 < ms; omega
      clear h6 hl7
      cases bb with
      | false =>
        have hdl : p.deal sk d = none := by
          have := HT.out.2
          cases h : p.deal sk d with
          | none => rfl
          | some t => rw [h] at this; cases this
        have hrun := HW.out.run
        rw [HDR.out, runF_none hdl] at hrun
        have HR := Lib.hid hrun
        clear hrun hdl
        obtain ⟨x0, x1, x2⟩ := sh_cells HW6.out.h7
        obtain ⟨y0, y1, y2⟩ := sh_cells HW6.out.h4
        have fz : ∀ j, w6.frozen? ⟨b4, j, none⟩ = false := fun j => frozen_of_heap HW6.out.h4
        have f0 := fz 0
        have f1 := fz 1
        have f2 := fz 2
        clear fz
        go_wp2_with fail
        have ho := HW6.out.out (by rw [HW6.out.len]; omega)
        exact bodyPost_ret (res_48it rfl _ rfl rfl rfl ho.2.1) rfl (by rw [HR.out]; exact ⟨_, _, rfl, ho.1, ho.2.2, fun gb o hg => ((HW6.out.ne) gb o hg).2.2⟩)
      | true =>
        have hsome : (p.deal sk d).isSome = true := HT.out.2
        obtain ⟨t', ht'⟩ := Option.isSome_iff_exists.1 hsome
        have htt : t' = t := by rw [← HT.out.1, ht']; rfl
        subst htt
        have hrun := HW.out.run
        rw [HDR.out, runF_some ht'] at hrun
        have hk60 := HW.out.bd
        have HR := Lib.hid (And.intro hrun (And.intro ((deal_len ht').trans HW.out.len) (And.intro (deal_bd HS.out.2.2.1 HDO.out HW.out.len HW.out.bd ht') (H6.out.2.2 rfl))))
        clear hrun ht' hsome hk60
        obtain ⟨x0, x1, x2⟩ := sh_cells H6.out.2.1.1
        obtain ⟨y0, y1, y2⟩ := sh_cells HW6.out.h7
        have fz : ∀ j, w6.frozen? ⟨b7, j, none⟩ = false := fun j => frozen_of_heap HW6.out.h7
        have f0 := fz 0
        have f1 := fz 1
        have f2 := fz 2
        clear fz
        go_wp2_with fail
        have HN : Hid (PlyI w bp b4 b7 p A (p.deals.take k) (i + 1) t' r1.1 r1.2 (set3 w6 b7 (.int .i64 t'.paper) (.int .i64 t'.money) (.slice r1.1 t'.cards.length r1.2))) := by
          have hl := HW6.out.lay
          have hsz := heap_lt HW.out.h7
          have hsz4 := heap_lt HW.out.h4
          refine ⟨(set3_other (by omega)).trans HW6.out.h2, (set3_other (by omega)).trans HW6.out.h4, set3_at HW6.out.h7, spns_other HR.out.2.2.2.2.1 fun gb o hg => set3_other (by have := HR.out.2.2.2.2.2 gb o hg; omega), set3_below HW6.out.le (by omega), hl, HR.out.1, HR.out.2.1, HR.out.2.2.1.le (by omega), fun gb o hg => by have := HR.out.2.2.2.2.2 gb o hg; have := HW.out.le.size; omega⟩
        clear x0 x1 x2 y0 y1 y2 f0 f1 f2
        go_roundw
        case rel => exact ⟨i + 1, t', r1.1, r1.2, by omega, by go_num, HN.out⟩
        case measure => simp [intOf]; omega
    · have hke : i = k := by omega
      subst hke
      have hrun := HW.out.run
      rw [show (p.deals.take i).drop i = [] from List.drop_eq_nil_of_le (by rw [List.length_take]; omega)] at hrun
      have HR := Lib.hid hrun
      clear hrun
      obtain ⟨x0, x1, x2⟩ := sh_cells HW.out.h7
      obtain ⟨y0, y1, y2⟩ := sh_cells HW.out.h4
      have fz : ∀ j, wr.frozen? ⟨b4, j, none⟩ = false := fun j => frozen_of_heap HW.out.h4
      have f0 := fz 0
      have f1 := fz 1
      have f2 := fz 2
      clear fz
      go_wp2_with fail
      refine HK2.out _ _ ?_
      go_wp2_with fail
      have ho := HW.out.out (by rw [HW.out.len]; omega)
      exact bodyPost_ret (res_48it rfl _ rfl rfl rfl ho.2.1) rfl (by rw [HR.out]; exact ⟨_, _, rfl, ho.1, ho.2.2, fun gb o hg => ((HW.out.ne) gb o hg).2.2⟩)
end Go.Proofs.Ytjkhclijmcmdjaa
namespace Go.Proofs.Ytjkhclijmcmdjaa
open Go.RowKit
set_option linter.unusedVariables false
set_option linter.unusedSimpArgs false
set_option maxRecDepth 100000 in
set_option maxHeartbeats 4000000 in
theorem rplay27 {p : Prs} {A : PrsA} {w : World} (hP : IsPrs w p A) (hS : p.Small) :
    Calls Try.prog 27 #[p.v A] w fun e w' => e = .returned (.tuple #[.int .i64 (playE p).1, .int .i64 (playE p).2]) ∧ Below w.heap.size w w' := by
  have hb0 : Below w.heap.size w (w.alloc (.cells (p.arr A) 27)) := (Below.refl _ w).alloc (Nat.le_refl _) _
  have q0 := World.alloc_heap_new w (.cells (p.arr A) 27)
  have HX := Lib.hid (And.intro q0 (And.intro hb0 (hP.mono hb0)))
  have HS := Lib.hid hS
  clear hb0 q0 hP hS
  go_enter Try.func27, Try.ntmps27
  refine wp_seq_hid ?_
  intro K0 HK0
  go_wp2_with fail
  refine HK0.out _ _ ?_
  clear HK0 K0
  revert HX
  generalize w.alloc (.cells (p.arr A) 27) = w1
  generalize hbp : w.heap.size = bp
  intro HX
  have HBP := Lib.hid hbp
  clear hbp
  obtain ⟨m0, m1, m2, m3, m4, m5, m6, m7, m8, m9⟩ := prs_cells HX.out.1
  refine wp_seq_hid ?_
  intro K1 HK1
  have HC := Lib.hid (rcheck46 HX.out.2.2 HS.out true)
  obtain ⟨oe, hoe⟩ : ∃ oe, p.openE true = oe := ⟨_, rfl⟩
  rw [hoe] at HC
  have HOE := Lib.hid hoe
  clear hoe
  go_wp2_with fail
  refine HC.out.mono ?_
  rintro e w2 ⟨rfl, hb⟩
  have HB := Lib.hid hb
  clear hb m0 m1 m2 m3 m4 m5 m6 m7 m8 m9
  go_wp2_with fail
  refine HK1.out _ _ ?_
  clear HK1 K1 HC
  by_cases h0 : oe = 0
  · subst h0
    have HV := Lib.hid (openE_zero HOE.out).1
    have hq := (HB.out.block _ (heap_lt HX.out.1)).trans HX.out.1
    have HQ := Lib.hid hq
    obtain ⟨m0, m1, m2, m3, m4, m5, m6, m7, m8, m9⟩ := prs_cells hq
    obtain ⟨r, hr⟩ : ∃ r, p.runF p.first p.deals 0 = r := ⟨_, rfl⟩
    have HE : Hid (playE p = ((r.2.1 : Int), if r.2.2 then 0 else 10)) := by
      show playE p = _; unfold playE; simp only; rw [if_pos HOE.out, hr]
    have HC : Hid (Calls Try.prog 59 #[p.v A, .int .i64 (p.deals.length : Int)] w2 (PlayR w2 r)) := by
      have h := rplay59 (k := p.deals.length) (HX.out.2.2.mono HB.out) HS.out HV.out (Nat.le_refl _)
      rw [List.take_length, hr] at h
      exact h
    clear hq hr
    go_wp2_with fail
    refine HC.out.mono ?_
    rintro e w3 ⟨a', c', rfl, hsp, hb, hfr⟩
    have HB3 : Hid (Below w.heap.size w w3) := by
      have h1 := HX.out.2.1
      have h2 := HB.out
      have h3 := heap_lt HX.out.1
      have h4 := h2.size
      rw [← HBP.out] at h1 h3
      exact (h1.trans (h2.mono (by omega))).trans (hb.mono (by omega))
    clear hb hsp hfr m0 m1 m2 m3 m4 m5 m6 m7 m8 m9 HC
    obtain ⟨r1, r2, r3⟩ := r
    simp only at HE
    have hba : ∀ o, Below w3.heap.size w3 (w3.alloc o) := fun o => (Below.refl _ _).alloc (Nat.le_refl _) _
    have HBA := Lib.hid hba
    clear hba
    cases r3
    all_goals
      go_wp2_with fail
      go_ret2
      have h5 := HB3.out.trans ((HBA.out (.cells #[.int .i64 r1.paper, .int .i64 r1.money, .slice a' r1.cards.length c'] 48)).mono HB3.out.size)
      rw [HBP.out] at h5
      exact ⟨by rw [HE.out]; rfl, h5⟩
  · have HE : Hid (playE p = (0, oe)) := by
      show playE p = _; unfold playE; simp only; rw [HOE.out, if_neg h0]
    have hb : (oe != 0) = true := by simpa using h0
    have h5 := HX.out.2.1.trans (HB.out.mono (Nat.le_of_lt (heap_lt HX.out.1)))
    have H5 := Lib.hid h5
    clear h0 h5
    go_wp2_with fail
    go_ret2
    exact ⟨by rw [HE.out]; rfl, H5.out⟩
end Go.Proofs.Ytjkhclijmcmdjaa
namespace Go.Proofs.Ytjkhclijmcmdjaa
open Go.RowKit
set_option linter.unusedVariables false
set_option linter.unusedSimpArgs false
set_option maxRecDepth 100000 in
set_option maxHeartbeats 4000000 in
theorem ron29 {p : Prs} {A : PrsA} {n : Int} {w : World} (hP : IsPrs w p A) (hS : p.Small) :
    Calls Try.prog 29 #[p.v A, .int .i64 n] w fun e w' => ∃ a c, e = .returned (.tuple #[.agg #[.int .i64 (onE p n).1.paper, .int .i64 (onE p n).1.money, .slice a (onE p n).1.cards.length c], .int .i64 (onE p n).2]) ∧ IsSpns w' a (onE p n).1.cards ∧ Below w.heap.size w w' := by
  have HX := Lib.hid (alloc2 w (p.arr A) #[.int .i64 0, .int .i64 0, .slice none 0 0] 27 48)
  have HF := Lib.hid (hP.mono (alloc2 w (p.arr A) #[.int .i64 0, .int .i64 0, .slice none 0 0] 27 48).2.2)
  have HS := Lib.hid hS
  have hd60 := hS.deals
  clear hP hS
  go_enter Try.func29, Try.ntmps29
  refine wp_seq_hid ?_
  intro K0 HK0
  go_wp2_with fail
  refine HK0.out _ _ ?_
  clear HK0 K0
  revert HX HF
  generalize (w.alloc (.cells (p.arr A) 27)).alloc (.cells #[.int .i64 0, .int .i64 0, .slice none 0 0] 48) = w1
  generalize hb4 : w.heap.size + 1 = b4
  generalize hbp : w.heap.size = bp
  intro HX HF
  have HBP := Lib.hid (And.intro hbp hb4)
  clear hbp hb4
  obtain ⟨y0, y1, y2, y3, y4, y5, y6, y7, y8, y9⟩ := prs_aft (prs_cells HX.out.1)
  obtain ⟨q, hq⟩ : ∃ q, inR n 0 p.deals.length = q := ⟨_, rfl⟩
  have C61 := fun w => in_any n 0 p.deals.length w
  rw [hq] at C61
  have HC61 := Lib.hid C61
  have HC46 := Lib.hid (fun y : Aft w1.heap.size w1 => rcheck46 (HF.out.mono y.h) HS.out q)
  obtain ⟨oe, hoe⟩ : ∃ oe, p.openE q = oe := ⟨_, rfl⟩
  rw [hoe] at HC46
  have HOE := Lib.hid (And.intro hoe hq)
  clear C61 hoe hq
  refine wp_seq_hid ?_
  intro K1 HK1
  refine wp_region_aft mixed (by kernel_rfl) ?_
  repeat (go_big_quiet_step (first | (go_at_call 61; exact calls_aft_same (HC61.out _)) | (go_at_call 46; exact calls_aft (HC46.out _))))
  refine wpQuiet_nil ?_
  rintro _ ⟨y, rfl⟩
  refine HK1.out _ _ ?_
  have HB := Lib.hid y.h
  clear y0 y1 y2 y3 y4 y5 y6 y7 y8 y9 HC61 HC46 HK1 K1
  revert HB
  generalize y.v = w2
  intro HB
  have HQ := Lib.hid (And.intro ((HB.out.block _ (heap_lt HX.out.1)).trans HX.out.1) (And.intro ((HB.out.block _ (heap_lt HX.out.2.1)).trans HX.out.2.1) (And.intro (HF.out.mono HB.out) (HX.out.2.2.trans (HB.out.mono (Nat.le_of_lt (heap_lt HX.out.1)))))))
  clear HX HF HB
  by_cases h0 : oe = 0
  · subst h0
    have HV := Lib.hid (openE_zero HOE.out.1)
    obtain ⟨k, hk⟩ : ∃ k : Nat, n = (k : Int) := ⟨n.toNat, by have h1 := HOE.out.2; rw [HV.out.2] at h1; simp [inR] at h1; omega⟩
    have hkl : k ≤ p.deals.length := by have h1 := HOE.out.2; rw [HV.out.2, hk] at h1; simp [inR] at h1; omega
    obtain ⟨r, hr⟩ : ∃ r, p.runF p.first (p.deals.take k) 0 = r := ⟨_, rfl⟩
    have HE : Hid (onE p n = if r.2.2 then (r.1, 0) else (⟨0, 0, []⟩, 10)) := by
      show onE p n = _; unfold onE; simp only; rw [HOE.out.2, if_pos HOE.out.1, show n.toNat = k by omega, hr]
    have HC : Hid (Calls Try.prog 59 #[p.v A, .int .i64 (k : Int)] w2 (PlayR w2 r)) := by
      have h := rplay59 (k := k) HQ.out.2.2.1 HS.out HV.out.1 hkl
      rw [hr] at h
      exact h
    obtain ⟨m0, m1, m2, m3, m4, m5, m6, m7, m8, m9⟩ := prs_cells HQ.out.1
    clear hr hkl
    subst hk
    go_wp2_with fail
    refine HC.out.mono ?_
    rintro e w3 ⟨a', c', rfl, hsp, hb, hfr⟩
    have HB3 := Lib.hid (And.intro ((hb.block _ (heap_lt HQ.out.2.1)).trans HQ.out.2.1) (And.intro hsp (HQ.out.2.2.2.trans (hb.mono (Nat.le_of_lt (heap_lt HQ.out.1))))))
    have HFR : Hid (∀ gb off, a' = some ⟨gb, off, none⟩ → gb ≠ b4) := fun gb off e => by have h1 := hfr gb off e; have h2 := heap_lt HQ.out.2.1; show gb ≠ b4; omega
    have HSZ := Lib.hid (Nat.lt_of_lt_of_le (heap_lt HQ.out.1) hb.size)
    clear hb hsp m0 m1 m2 m3 m4 m5 m6 m7 m8 m9 HC
    obtain ⟨r1, r2, r3⟩ := r
    simp only at HE
    have hl4 := heap_lt HB3.out.1
    have hba : Below w3.heap.size w3 (w3.alloc (.cells #[.int .i64 r1.paper, .int .i64 r1.money, .slice a' r1.cards.length c'] 48)) := (Below.refl _ _).alloc (Nat.le_refl _) _
    have q7 := World.alloc_heap_new w3 (.cells #[.int .i64 r1.paper, .int .i64 r1.money, .slice a' r1.cards.length c'] 48)
    have H7 := Lib.hid (And.intro q7 (And.intro ((hba.block _ hl4).trans HB3.out.1) (And.intro (HB3.out.2.1.mono hba) (And.intro (HB3.out.2.2.trans (hba.mono (Nat.le_of_lt HSZ.out))) hba))))
    clear hba q7
    go_upto_region 5 with fail
    revert H7
    generalize w3.alloc (.cells #[.int .i64 r1.paper, .int .i64 r1.money, .slice a' r1.cards.length c'] 48) = w4
    generalize w3.heap.size = b7 at hl4
    intro H7
    have HL4 := Lib.hid hl4
    clear hl4
    obtain ⟨x0, x1, x2⟩ := sh_cells H7.out.1
    obtain ⟨z0, z1, z2⟩ := sh_cells H7.out.2.1
    have fz : ∀ j, w4.frozen? ⟨b4, j, none⟩ = false := fun j => frozen_of_heap H7.out.2.1
    have f0 := fz 0
    have f1 := fz 1
    have f2 := fz 2
    clear fz
    have hle : bp ≤ b4 := by have := HBP.out; omega
    cases r3 with
    | false =>
      have HE2 : Hid (onE p k = (⟨0, 0, []⟩, 10)) := HE.out
      go_wp2_with fail
      have h3 := set3_at (x := .int .i64 0) (y := .int .i64 0) (z := .slice none 0 0) H7.out.2.1
      have h4 := set3_below (b := b4) (x := .int .i64 0) (y := .int .i64 0) (z := .slice none 0 0) H7.out.2.2.2.1 hle
      refine bodyPost_ret (res_48t rfl _ rfl rfl h3) rfl ⟨none, 0, by rw [HE2.out]; rfl, by rw [HE2.out]; exact fun i hi => by simp at hi, h4⟩
    | true =>
      have HE2 : Hid (onE p k = (r1, 0)) := HE.out
      go_wp2_with fail
      have h3 := set3_at (x := .int .i64 r1.paper) (y := .int .i64 r1.money) (z := .slice a' r1.cards.length c') H7.out.2.1
      have h4 := set3_below (b := b4) (x := .int .i64 r1.paper) (y := .int .i64 r1.money) (z := .slice a' r1.cards.length c') H7.out.2.2.2.1 hle
      refine bodyPost_ret (res_48t rfl _ rfl rfl h3) rfl ⟨a', ⟨c', by rw [HE2.out]; rfl⟩, ?_, h4⟩
      rw [HE2.out]
      exact spns_other H7.out.2.2.1 fun gb o hg => set3_other (HFR.out gb o hg)
  · have HE : Hid (onE p n = (⟨0, 0, []⟩, oe)) := by
      show onE p n = _; unfold onE; simp only; rw [HOE.out.2, HOE.out.1, if_neg h0]
    have hb : (oe != 0) = true := by simpa using h0
    clear h0
    obtain ⟨z0, z1, z2⟩ := sh_cells HQ.out.2.1
    have fz : ∀ j, w2.frozen? ⟨b4, j, none⟩ = false := fun j => frozen_of_heap HQ.out.2.1
    have f0 := fz 0
    have f1 := fz 1
    have f2 := fz 2
    clear fz
    have hle : bp ≤ b4 := by have := HBP.out; omega
    go_wp2_with fail
    have h3 := set3_at (x := .int .i64 0) (y := .int .i64 0) (z := .slice none 0 0) HQ.out.2.1
    have h4 := set3_below (b := b4) (x := .int .i64 0) (y := .int .i64 0) (z := .slice none 0 0) HQ.out.2.2.2 hle
    exact bodyPost_ret (res_48t rfl _ rfl rfl h3) rfl ⟨none, 0, by rw [HE.out]; rfl, by rw [HE.out]; exact fun i hi => by simp at hi, h4⟩
end Go.Proofs.Ytjkhclijmcmdjaa
namespace Go.Proofs.Ytjkhclijmcmdjaa
open Go.RowKit
set_option linter.unusedVariables false
set_option linter.unusedSimpArgs false
def startsG (p : Prs) (m : Int) : (Int × Int) × Int :=
  let e := p.openE true
  if e = 0 then (match p.lows m with
    | some x => ((m - x.1, m - x.2), 0)
    | none => ((0, 0), 10)) else ((0, 0), e)
/-- While the reference counts what is enough. -/
structure RsI (W : World) (bp b6 : Nat) (p : Prs) (A : PrsA) (R : Option (Int × Int)) (i : Nat) (s : Shf) (x y : Int) (a : Option Addr) (cs : Nat) (w : World) : Prop where
  h1 : w.heap[bp]? = some (.cells (p.arr A) 27 (0, 0))
  h6 : w.heap[b6]? = some (.cells #[.int .i64 s.paper, .int .i64 s.money, .slice a s.cards.length cs] 48 (0, 0))
  sp : IsSpns w a s.cards
  le : Below W.heap.size W w
  lay : W.heap.size ≤ bp ∧ bp < b6
  run : R = p.lowF s (p.deals.drop i) x y
  len : s.cards.length = p.wanted.length
  bd : SBd s (38280596832649216 + i * 2199023255552)
  lo : (-4611686018427387904 ≤ x ∧ x ≤ 36028797018963968) ∧ -4611686018427387904 ≤ y ∧ y ≤ 36028797018963968
  ne : ∀ gb off, a = some ⟨gb, off, none⟩ → gb ≠ b6
theorem RsI.mono {W : World} {bp b6 : Nat} {p : Prs} {A : PrsA} {R : Option (Int × Int)} {i : Nat} {s : Shf} {x y : Int} {a : Option Addr} {cs : Nat} {w w' : World} (h : RsI W bp b6 p A R i s x y a cs w) (hb : Below w.heap.size w w') : RsI W bp b6 p A R i s x y a cs w' :=
  ⟨(hb.block _ (heap_lt h.h1)).trans h.h1, (hb.block _ (heap_lt h.h6)).trans h.h6, h.sp.mono hb, h.le.trans (hb.mono h.le.size), h.lay, h.run, h.len, h.bd, h.lo, h.ne⟩
set_option maxRecDepth 100000 in
set_option maxHeartbeats 4000000 in
theorem rstarts31 {p : Prs} {A : PrsA} {w : World} (hP : IsPrs w p A) (hS : p.Small) :
    Calls Try.prog 31 #[p.v A] w fun e w' => e = .returned (.tuple #[.int .i64 (startsG p 36028797018963968).1.1, .int .i64 (startsG p 36028797018963968).1.2, .int .i64 (startsG p 36028797018963968).2]) ∧ Below w.heap.size w w' := by
  have hb0 : Below w.heap.size w (w.alloc (.cells (p.arr A) 27)) := (Below.refl _ w).alloc (Nat.le_refl _) _
  have q0 := World.alloc_heap_new w (.cells (p.arr A) 27)
  have HX := Lib.hid (And.intro q0 (And.intro hb0 (hP.mono hb0)))
  have HS := Lib.hid (And.intro hS hP)
  have hd60 := hS.deals
  clear hb0 q0 hP hS
  go_enter Try.func31, Try.ntmps31
  refine wp_seq_hid ?_
  intro K0 HK0
  go_wp2_with fail
  refine HK0.out _ _ ?_
  clear HK0 K0
  revert HX
  generalize w.alloc (.cells (p.arr A) 27) = w1
  generalize hbp : w.heap.size = bp
  intro HX
  have HBP := Lib.hid hbp
  clear hbp
  obtain ⟨m0, m1, m2, m3, m4, m5, m6, m7, m8, m9⟩ := prs_cells HX.out.1
  refine wp_seq_hid ?_
  intro K1 HK1
  have HC := Lib.hid (rcheck46 HX.out.2.2 HS.out.1 true)
  obtain ⟨oe, hoe⟩ : ∃ oe, p.openE true = oe := ⟨_, rfl⟩
  rw [hoe] at HC
  have HOE := Lib.hid hoe
  clear hoe
  go_wp2_with fail
  refine HC.out.mono ?_
  rintro e w2 ⟨rfl, hb⟩
  have HB := Lib.hid hb
  clear hb m0 m1 m2 m3 m4 m5 m6 m7 m8 m9
  go_wp2_with fail
  refine HK1.out _ _ ?_
  clear HK1 K1 HC
  by_cases h0 : oe = 0
  · subst h0
    have HV := Lib.hid (openE_zero HOE.out).1
    have hw4 := wanted_of HV.out
    have hq := (HB.out.block _ (heap_lt HX.out.1)).trans HX.out.1
    have HQ := Lib.hid hq
    obtain ⟨m0, m1, m2, m3, m4, m5, m6, m7, m8, m9⟩ := prs_cells hq
    obtain ⟨R, hR⟩ : ∃ R, p.lows 36028797018963968 = R := ⟨_, rfl⟩
    have HE : Hid ((∀ x, R = some x → startsG p 36028797018963968 = ((36028797018963968 - x.1, 36028797018963968 - x.2), 0)) ∧ (R = none → startsG p 36028797018963968 = ((0, 0), 10))) := by
      constructor
      · intro x hx
        unfold startsG; simp only; rw [if_pos HOE.out, hR, hx]
      · intro hx
        unfold startsG; simp only; rw [if_pos HOE.out, hR, hx]
    have HRR := Lib.hid hR
    clear hq hR
    refine wp_seq_hid ?_
    intro K2 HK2
    go_wp2_with fail
    refine HK2.out _ _ ?_
    clear HK2 K2
    refine wp_seq_hid ?_
    intro K3 HK3
    go_wp2_with fail
    refine (rfirst63 (by omega)).mono ?_
    rintro e w3 ⟨rfl, hsp, hb⟩
    have hq3 := (hb.block _ (heap_lt HQ.out)).trans HQ.out
    have hle3 : Below w.heap.size w w3 := by
      have h1 := HX.out.2.1
      have h2 := HB.out
      have h3 := heap_lt HX.out.1
      rw [← HBP.out] at h1 h3
      exact (h1.trans (h2.mono (by omega))).trans (hb.mono (by have := h2.size; omega))
    have H3 := Lib.hid (And.intro hq3 (And.intro hsp hle3))
    clear hb hsp hq3 hle3 m0 m1 m2 m3 m4 m5 m6 m7 m8 m9
    go_wp2_with fail
    refine HK3.out _ _ ?_
    clear HK3 K3
    have q4 := World.alloc_heap_new w3 (.cells #[.int .i64 p.paper, .int .i64 p.money, .slice (some ⟨w2.heap.size + 2, 0, none⟩) p.wanted.length p.wanted.length] 48)
    have hba : Below w3.heap.size w3 (w3.alloc (.cells #[.int .i64 p.paper, .int .i64 p.money, .slice (some ⟨w2.heap.size + 2, 0, none⟩) p.wanted.length p.wanted.length] 48)) := (Below.refl _ _).alloc (Nat.le_refl _) _
    have H4 := Lib.hid (And.intro q4 (And.intro ((hba.block _ (heap_lt H3.out.1)).trans H3.out.1) (And.intro (H3.out.2.1.mono hba) (And.intro (H3.out.2.2.trans (hba.mono H3.out.2.2.size)) (And.intro (spns_lt H3.out.2.1 (by simp; omega)) (heap_lt H3.out.1))))))
    clear q4 hba
    revert H4
    generalize w3.alloc (.cells #[.int .i64 p.paper, .int .i64 p.money, .slice (some ⟨w2.heap.size + 2, 0, none⟩) p.wanted.length p.wanted.length] 48) = w4
    generalize w3.heap.size = b6
    generalize w2.heap.size + 2 = g0
    intro H4
    obtain ⟨x0, x1, x2⟩ := sh_cells H4.out.1
    have f0 : w4.frozen? ⟨b6, 0, none⟩ = false := frozen_of_heap H4.out.1
    have f1 : w4.frozen? ⟨b6, 1, none⟩ = false := frozen_of_heap H4.out.1
    refine wp_seq_hid ?_
    intro K4 HK4
    go_wp2_with fail
    refine HK4.out _ _ ?_
    clear HK4 K4 x0 x1 x2 f0 f1
    have HI : Hid (RsI w bp b6 p A R 0 ⟨36028797018963968, 36028797018963968, List.replicate p.wanted.length ⟨0, 0⟩⟩ 36028797018963968 36028797018963968 (some ⟨g0, 0, none⟩) p.wanted.length ((w4.setCell ⟨b6, 0, none⟩ (.int .i64 36028797018963968)).setCell ⟨b6, 1, none⟩ (.int .i64 36028797018963968))) := by
      have hne : bp ≠ b6 := by have := H4.out.2.2.2.2; omega
      have hle : w.heap.size ≤ b6 := by have := H4.out.2.2.2.2; have := HBP.out; omega
      refine ⟨(Below.heap_setCell _ _ _ _ hne).trans ((Below.heap_setCell _ _ _ _ hne).trans H4.out.2.1), by simpa using heap_setCell_at (k := 1) (heap_setCell_at (k := 0) H4.out.1 (.int .i64 36028797018963968)) (.int .i64 36028797018963968), spns_set (n := 0) (spns_set (n := 0) H4.out.2.2.1 (by have := H4.out.2.2.2.2; omega)) (by have := H4.out.2.2.2.2; omega), (H4.out.2.2.2.1.setCell (p := ⟨b6, 0, none⟩) hle _).setCell (p := ⟨b6, 1, none⟩) hle _, by have := H4.out.2.2.2.2; have := HBP.out; omega, by rw [← HRR.out]; simp [Prs.lows], by simp, ?_, by omega, fun gb o e => by cases e; have := H4.out.2.2.2.2; omega⟩
      refine ⟨by show _ ∧ _; simp only; omega, by show _ ∧ _; simp only; omega, ?_⟩
      intro v hv
      have e : gs (List.replicate p.wanted.length (⟨0, 0⟩ : Spn)) v = ⟨0, 0⟩ := by rw [gs_get hv]; simp
      simp only [e]
      omega
    clear H4 H3 HQ HX HB
    revert HI
    generalize (w4.setCell ⟨b6, 0, none⟩ (.int .i64 36028797018963968)).setCell ⟨b6, 1, none⟩ (.int .i64 36028797018963968) = w5
    intro HI
    refine wp_seq_hid ?_
    intro K5 HK5
    go_wp2_with fail
    refine HK5.out _ _ ?_
    clear HK5 K5
    refine wp_seq_hid ?_
    intro K6 HK6
    go_wp2_with fail
    go_loopw [7, 8, 9] (fun u v z wr => ∃ (i : Nat) (sk : Shf) (x y : Int) (a : Option Addr) (cg : Nat), i ≤ p.deals.length ∧ z = .int .i64 i ∧ u = .int .i64 x ∧ v = .int .i64 y ∧ Hid (RsI w bp b6 p A R i sk x y a cg wr)) (fun _ _ z _ => p.deals.length - (intOf z).toNat)
    case atStart => exact ⟨0, _, _, _, _, _, by omega, rfl, rfl, rfl, HI.out⟩
    case round =>
      obtain ⟨i, sk, x, y, a, cg, hik, rfl, rfl, rfl, HW⟩ := hrel
      have m9 := (prs_cells HW.out.h1).c9
      by_cases hlk : i < p.deals.length
      · obtain ⟨bd, off, hab, ai, ci, c0, c1, c2, c3, c4, c5, c6⟩ := (HS.out.2.mono HW.out.le).deals i hlk
        have HLK := Lib.hid hlk
        have HDR := Lib.hid (drop_gd hlk)
        have hmem : gd p.deals i ∈ p.deals := by simp [gd, hlk]
        have HDO := Lib.hid (deals_of HV.out _ hmem)
        have hb5 : Below wr.heap.size wr (wr.alloc (.cells ((gd p.deals i).arr ai ci) 62)) := (Below.refl _ wr).alloc (Nat.le_refl _) _
        have q5 := World.alloc_heap_new wr (.cells ((gd p.deals i).arr ai ci) 62)
        have H5 := Lib.hid (And.intro q5 (And.intro (HW.out.mono hb5) (c6.mono hb5)))
        rw [hab] at m9
        clear hmem q5 hb5 c6
        have HAB := Lib.hid hab
        clear hab
        revert c0 c1 c2 c3 c4 c5 HDR HDO H5
        generalize gd p.deals i = d
        intro c0 c1 c2 c3 c4 c5 HDR HDO H5
        go_upto_region 11 with fail
        clear c0 c1 c2 c3 c4 c5 m9
        revert H5
        generalize wr.alloc (.cells (d.arr ai ci) 62) = w5
        generalize wr.heap.size = b10
        intro H5
        obtain ⟨m0, m1, m2, m3, m4, m5, m6, m7, m8, m9⟩ := prs_cells H5.out.2.1.h1
        obtain ⟨x0, x1, x2⟩ := sh_cells H5.out.2.1.h6
        obtain ⟨k0, k1, k2, k3, k4, k5⟩ := dl_cells H5.out.1
        have hi60 : (i : Int) ≤ 60 := by omega
        have HC := Lib.hid (rafter64 (p := p) (A := A) (cs := cg) (cd := ci) H5.out.2.1.sp H5.out.2.2 HV.out HDO.out H5.out.2.1.len (H5.out.2.1.bd.le (by omega)))
        go_wp2_with fail
        refine HC.out.mono ?_
        clear HC m0 m1 m2 m3 m4 m5 m6 m7 m8 m9 x0 x1 x2 k0 k1 k2 k3 k4 k5
        rintro e w6 ⟨a', c', he, hsp, hb, hfr⟩
        cases hdl : p.deal sk d with
        | none =>
          rw [hdl] at he
          simp only [Option.getD_none, Option.isSome_none] at he
          subst he
          have hrun := H5.out.2.1.run
          rw [HDR.out, lowF_none hdl] at hrun
          have HR := Lib.hid (HE.out.2 hrun)
          have hle := H5.out.2.1.le.trans (hb.mono H5.out.2.1.le.size)
          have hba : Below w6.heap.size w6 (w6.alloc (.cells #[.int .i64 sk.paper, .int .i64 sk.money, .slice a' sk.cards.length c'] 48)) := (Below.refl _ _).alloc (Nat.le_refl _) _
          have HLE := Lib.hid (hle.trans (hba.mono hle.size))
          clear hdl hrun hsp hb hfr hle hba
          go_wp2_with fail
          refine bodyPost_ret (results_tmp3 rfl _ _ _) rfl ?_
          exact ⟨by rw [HR.out]; rfl, by have := HLE.out; rw [HBP.out] at this; exact this⟩
        | some t =>
          rw [hdl] at he hsp hfr
          simp only [Option.getD_some, Option.isSome_some] at he hsp
          subst he
          have hrun := H5.out.2.1.run
          rw [HDR.out, lowF_some hdl] at hrun
          have hlen : t.cards.length = p.wanted.length := (deal_len hdl).trans H5.out.2.1.len
          have hfr2 := hfr rfl
          have hgt : ∀ gb o, a' = some ⟨gb, o, none⟩ → gb < w6.heap.size := fun gb o e => by rw [e] at hsp; exact spns_lt hsp (by omega)
          have HR := Lib.hid (And.intro hrun (And.intro hlen (And.intro (deal_bd HV.out HDO.out H5.out.2.1.len H5.out.2.1.bd hdl) (And.intro H5.out.2.1.lo (And.intro hfr2 (And.intro hgt (heap_lt H5.out.2.1.h6)))))))
          have HW6 := Lib.hid (H5.out.2.1.mono hb)
          have HSP := Lib.hid hsp
          clear hdl hrun hlen hfr2 hgt hfr hsp hb
          have hba : Below w6.heap.size w6 (w6.alloc (.cells #[.int .i64 t.paper, .int .i64 t.money, .slice a' t.cards.length c'] 48)) := (Below.refl _ _).alloc (Nat.le_refl _) _
          have q7 := World.alloc_heap_new w6 (.cells #[.int .i64 t.paper, .int .i64 t.money, .slice a' t.cards.length c'] 48)
          have H7 := Lib.hid (And.intro q7 (And.intro (HW6.out.mono hba) (HSP.out.mono hba)))
          clear hba q7
          go_upto_region 14 with fail
          revert H7
          generalize w6.alloc (.cells #[.int .i64 t.paper, .int .i64 t.money, .slice a' t.cards.length c'] 48) = w7
          generalize w6.heap.size = b11
          intro H7
          obtain ⟨x0, x1, x2⟩ := sh_cells H7.out.1
          have X0 := fun y : Aft w7.heap.size w7 => cell_stays y.h x0
          have X1 := fun y : Aft w7.heap.size w7 => cell_stays y.h x1
          refine wp_region_aft mixed (by kernel_rfl) ?_
          repeat (go_big_quiet_step (fail))
          refine wpQuiet_nil ?_
          rintro _ ⟨y_, rfl⟩
          have H8 := Lib.hid (And.intro ((y_.h.block _ (heap_lt H7.out.1)).trans H7.out.1) (And.intro (H7.out.2.1.mono y_.h) (H7.out.2.2.mono y_.h)))
          clear X0 X1 x0 x1 x2
          revert H8
          generalize y_.v = w8
          intro H8
          obtain ⟨x0, x1, x2⟩ := sh_cells H8.out.1
          obtain ⟨z0, z1, z2⟩ := sh_cells H8.out.2.1.h6
          have fz : ∀ j, w8.frozen? ⟨b6, j, none⟩ = false := fun j => frozen_of_heap H8.out.2.1.h6
          have f0 := fz 0
          have f1 := fz 1
          have f2 := fz 2
          clear fz
          go_wp2_with fail
          refine ⟨⟨i + 1, t, _, _, a', c', hlk, by go_num, rfl, rfl, ?_⟩, meas_lt hlk⟩
          have na : min x t.paper = if t.paper < x then t.paper else x := by split <;> omega
          have nb : min y t.money = if t.money < y then t.money else y := by split <;> omega
          have hrun := HR.out.1
          rw [na, nb] at hrun
          have hlo := HR.out.2.2.2.1
          have hpp := HR.out.2.2.1.paper
          have hmm := HR.out.2.2.1.money
          have hl := H8.out.2.1.lay
          have hlo2 : (-4611686018427387904 ≤ (if t.paper < x then t.paper else x) ∧ (if t.paper < x then t.paper else x) ≤ 36028797018963968) ∧ -4611686018427387904 ≤ (if t.money < y then t.money else y) ∧ (if t.money < y then t.money else y) ≤ 36028797018963968 := by
            constructor <;> split <;> omega
          have h6 := HR.out.2.2.2.2.2.2
          have h5 := HR.out.2.2.2.2.1
          have hsz5 := h6
          refine ⟨(set3_other (by omega)).trans H8.out.2.1.h1, set3_at H8.out.2.1.h6, spns_other H8.out.2.2 fun gb o hg => set3_other (by have := h5 gb o hg; omega), set3_below H8.out.2.1.le (by omega), hl, hrun, HR.out.2.1, HR.out.2.2.1.le (by omega), hlo2, fun gb o hg => by have := h5 gb o hg; omega⟩
      · have hrun := HW.out.run
        rw [show p.deals.drop i = [] from List.drop_eq_nil_of_le (by omega)] at hrun
        have HR := Lib.hid (HE.out.1 _ hrun)
        have hlo := HW.out.lo
        clear hrun
        go_wp2_with fail
        refine HK6.out _ _ ?_
        have e1 : IntKind.i64.wrap (36028797018963968 - x) = 36028797018963968 - x := IntWalk.i64_in _ (by omega)
        have e2 : IntKind.i64.wrap (36028797018963968 - y) = 36028797018963968 - y := IntWalk.i64_in _ (by omega)
        go_wp2_with fail
        refine bodyPost_ret (results_tmp3 rfl _ _ _) rfl ?_
        exact ⟨by rw [HR.out]; rfl, by have := HW.out.le; rw [HBP.out] at this; exact this⟩
  · have HE : Hid (startsG p 36028797018963968 = ((0, 0), oe)) := by
      show startsG p _ = _; unfold startsG; simp only; rw [HOE.out, if_neg h0]
    have hb : (oe != 0) = true := by simpa using h0
    have h5 := HX.out.2.1.trans (HB.out.mono (Nat.le_of_lt (heap_lt HX.out.1)))
    have H5 := Lib.hid h5
    clear h0 h5
    go_wp2_with fail
    refine bodyPost_ret (results_tmp3 rfl _ _ _) rfl ?_
    exact ⟨by rw [HE.out]; rfl, H5.out⟩
end Go.Proofs.Ytjkhclijmcmdjaa
namespace Go.Proofs.Ytjkhclijmcmdjaa
open Go.RowKit
set_option linter.unusedVariables false
set_option linter.unusedSimpArgs false
def Shf.more (s : Shf) (x : Int) : Shf := ⟨s.paper + x, s.money + x, s.cards⟩
theorem deal_rng {p : Prs} {d : Dl} (hV : p.valid = true) (hd : dealOk p d = true) :
    (d.kind = 0 → (1 ≤ d.many ∧ d.many ≤ 1048576) ∧ 0 ≤ d.pence ∧ d.pence ≤ 1099511627776) ∧ (d.kind = 1 → 0 ≤ d.forme.times ∧ d.forme.times ≤ 1048576) ∧ (d.kind ≠ 0 → d.kind ≠ 1 → 0 ≤ d.pence ∧ d.pence ≤ 1099511627776) := by
  refine ⟨fun h => ?_, fun h => ?_, fun h0 h1 => ?_⟩
  · unfold dealOk at hd; rw [if_pos h] at hd; simpa [inR] using hd
  · have hF : fmeOk p d.forme = true := by unfold dealOk at hd; rw [if_neg (by omega), if_pos h] at hd; exact hd
    exact (fmeR_of hF (v := 0) (by have := wanted_of hV; omega)).times
  · unfold dealOk at hd; rw [if_neg h0, if_neg h1] at hd; split at hd
    · have h2 : ((0 ≤ d.view ∧ d.view ≤ (p.wanted.length : Int) - 1) ∧ (1 ≤ d.many ∧ d.many ≤ 1048576)) ∧ 0 ≤ d.pence ∧ d.pence ≤ 1099511627776 := by simpa [inR, and_assoc] using hd
      exact h2.2
    · cases hd
/-- A deal with more than enough: it hangs on the cards alone. -/
theorem deal_more {p : Prs} {d : Dl} {s : Shf} (hV : p.valid = true) (hd : dealOk p d = true) (hp : 2199023255552 ≤ s.paper) (hm : 2199023255552 ≤ s.money) {x : Int} (hx : 0 ≤ x) :
    p.deal (s.more x) d = (p.deal s d).map fun t => t.more x := by
  obtain ⟨r0, r1, r2⟩ := deal_rng hV hd
  have hmk := (pence_of hV).1
  unfold Prs.deal
  by_cases h0 : d.kind = 0
  · have := r0 h0
    rw [if_pos h0, if_pos h0, if_neg (by simp only [Shf.more]; omega), if_neg (by omega)]
    simp only [Option.map_some, Shf.more]
    congr 2 <;> omega
  · by_cases h1 : d.kind = 1
    · have := r1 h1
      rw [if_neg h0, if_pos h1, if_neg h0, if_pos h1, if_neg (by simp only [Shf.more]; omega), if_neg (by omega)]
      simp only [Option.map_some, Shf.more]
      congr 2 <;> omega
    · rw [if_neg h0, if_neg h1, if_neg h0, if_neg h1]
      by_cases hc : (gs s.cards d.view.toNat).lo < d.many
      · rw [if_pos (show (gs (s.more x).cards d.view.toNat).lo < d.many from hc), if_pos hc]; rfl
      · rw [if_neg (show ¬ (gs (s.more x).cards d.view.toNat).lo < d.many from hc), if_neg hc]
        simp only [Option.map_some, Shf.more]
        congr 2; omega
theorem deal_low {p : Prs} {d : Dl} {s t : Shf} {n : Nat} (hV : p.valid = true) (hd : dealOk p d = true) (hp : ((n + 1 : Nat) : Int) * 2199023255552 ≤ s.paper) (hm : ((n + 1 : Nat) : Int) * 2199023255552 ≤ s.money) (h : p.deal s d = some t) :
    (n : Int) * 2199023255552 ≤ t.paper ∧ (n : Int) * 2199023255552 ≤ t.money := by
  obtain ⟨r0, r1, r2⟩ := deal_rng hV hd
  have hmk := (pence_of hV).1
  unfold Prs.deal at h
  by_cases h0 : d.kind = 0
  · have := r0 h0
    rw [if_pos h0] at h
    split at h
    · cases h
    · cases h; simp only; omega
  · by_cases h1 : d.kind = 1
    · have := r1 h1
      rw [if_neg h0, if_pos h1] at h
      split at h
      · cases h
      · cases h; simp only; omega
    · have := r2 h0 h1
      rw [if_neg h0, if_neg h1] at h
      split at h
      · cases h
      · cases h; simp only; omega
theorem lowF_more {p : Prs} (hV : p.valid = true) {x : Int} (hx : 0 ≤ x) (r : List Dl) : ∀ (s : Shf) (a b : Int), (∀ d ∈ r, dealOk p d = true) → (r.length : Int) * 2199023255552 ≤ s.paper → (r.length : Int) * 2199023255552 ≤ s.money →
    p.lowF (s.more x) r (a + x) (b + x) = (p.lowF s r a b).map fun y => (y.1 + x, y.2 + x) := by
  induction r with
  | nil => intro s a b _ _ _; rfl
  | cons d r ih =>
    intro s a b hd hp hm
    have h1 := hd d (by simp)
    rw [List.length_cons] at hp hm
    have h2 := deal_more hV h1 (s := s) (by omega) (by omega) hx
    cases h : p.deal s d with
    | none =>
      rw [h] at h2
      rw [lowF_none h, lowF_none h2]; rfl
    | some t =>
      rw [h] at h2
      have hl := deal_low (n := r.length) hV h1 hp hm h
      rw [lowF_some h, lowF_some h2, ← ih t _ _ (fun e he => hd e (by simp [he])) hl.1 hl.2]
      have e1 : min (a + x) (t.more x).paper = min a t.paper + x := by simp only [Shf.more]; omega
      have e2 : min (b + x) (t.more x).money = min b t.money + x := by simp only [Shf.more]; omega
      rw [e1, e2]
theorem deals_len {p : Prs} (hV : p.valid = true) : p.deals.length ≤ 20 := by
  unfold Prs.valid Prs.sizeOk at hV
  simp only [Bool.and_eq_true, decide_eq_true_eq] at hV
  omega
theorem starts_same (p : Prs) : startsG p 36028797018963968 = startsE p := by
  show _ = startsG p 1125899906842624
  unfold startsG
  simp only
  by_cases h0 : p.openE true = 0
  · rw [if_pos h0, if_pos h0]
    have hV := (openE_zero h0).1
    have hl := deals_len hV
    have h := lowF_more hV (x := 34902897112121344) (by omega) p.deals ⟨1125899906842624, 1125899906842624, List.replicate p.wanted.length ⟨0, 0⟩⟩ 1125899906842624 1125899906842624 (fun d hd => deals_of hV d hd) (by simp only; omega) (by simp only; omega)
    have e : p.lows 36028797018963968 = (p.lows 1125899906842624).map fun y => (y.1 + 34902897112121344, y.2 + 34902897112121344) := h
    rw [e]
    cases p.lows 1125899906842624 with
    | none => rfl
    | some y =>
      simp only [Option.map_some]
      congr 2 <;> omega
  · rw [if_neg h0, if_neg h0]
end Go.Proofs.Ytjkhclijmcmdjaa
namespace Go.Proofs.Ytjkhclijmcmdjaa
open Go.RowKit
set_option linter.unusedVariables false
set_option linter.unusedSimpArgs false
theorem eq_gs {l m : List Spn} (hl : l.length = m.length) (h : ∀ j, j < l.length → gs l j = gs m j) : l = m := by
  refine List.ext_getElem hl (fun i h1 h2 => ?_)
  have := h i h1
  simpa [gs, h1, h2] using this
theorem eq23 (a b c e : Int) (w : World) : (Op.equalIn 10000 23 (.agg #[.int .i64 a, .int .i64 b]) (.agg #[.int .i64 c, .int .i64 e])).run Try.prog w = .ok (a == c && b == e) w := by
  have hu3 : Try.prog.underlying 3 = some (.int .i64) := by kernel_rfl
  have hs : Try.prog.stoodInHeld 23 = false := by kernel_rfl
  have hp : ∀ (x y : Int) (w : World), (part 3 #[.int .i64 x, .int .i64 y] 0).run Try.prog w = .ok (.int .i64 x) w := fun x y w => by simp [part, run_underlying hu3, Result.andThen, isAgg]
  have hp1 : ∀ (x y : Int) (w : World), (part 3 #[.int .i64 x, .int .i64 y] 1).run Try.prog w = .ok (.int .i64 y) w := fun x y w => by simp [part, run_underlying hu3, Result.andThen, isAgg]
  have he : ∀ (x y : Int) (w : World), (Op.equalIn 9999 3 (.int .i64 x) (.int .i64 y)).run Try.prog w = .ok (x == y) w := fun x y w => by
    rw [Op.equalIn]; simp [run_underlying hu3, Result.andThen]
  rw [Op.equalIn]
  simp [run_underlying Try.underlying23, Result.andThen, hs, hp, he]
  by_cases h1 : a = c <;> by_cases h2 : b = e <;> simp [h1, h2, hp1, he, Result.andThen]
theorem neq23 (s r : Spn) (w : World) : (binOp .neq 23 (.agg #[.int .i64 s.lo, .int .i64 s.hi]) (.agg #[.int .i64 r.lo, .int .i64 r.hi])).run Try.prog w = .ok (.bool (!decide (s = r))) w := by
  have h := eq23 s.lo s.hi r.lo r.hi w
  have e : (s.lo == r.lo && s.hi == r.hi) = decide (s = r) := by
    rw [Bool.eq_iff_iff]; cases s; cases r; simp
  rw [e] at h
  simp [binOp, go_sem, Op.equal, Op.maxDepth, h, Result.andThen]
set_option maxRecDepth 100000 in
set_option maxHeartbeats 1000000 in
theorem spans_eq {l m : List Spn} {a b : Option Addr} {ca cb : Nat} {w : World} (ha : IsSpns w a l) (hb : IsSpns w b m) (hl : l.length = m.length) (h5 : l.length ≤ 30) :
    Calls Try.prog 21 #[.slice a l.length ca, .slice b l.length cb] w fun e w' => e = .returned (.bool (decide (l = m))) ∧ Below w.heap.size w w' := by
  have HL := Lib.hid (And.intro hl (And.intro ha hb))
  have hlb : ((l.length : Int) == (l.length : Int)) = true := by simp
  clear ha hb hl
  go_enter Try.func21, Try.ntmps21
  go_wp2_with fail
  go_loopw [5] (fun i wr => ∃ k : Nat, k ≤ l.length ∧ i = .int .i64 k ∧ Hid (∀ j, j < k → gs l j = gs m j) ∧ Below w.heap.size w wr) (fun i _ => l.length - (intOf i).toNat)
  case atStart => exact ⟨0, by omega, rfl, fun j hj => by omega, Below.refl _ _⟩
  case round =>
    obtain ⟨k, hk, rfl, HK, hbr⟩ := hrel
    by_cases hlt : k < l.length
    · obtain ⟨hlm, ha, hb⟩ := HL.out
      obtain ⟨b1, o1, rfl, q1, r1⟩ := ha.mono hbr k hlt
      obtain ⟨b2, o2, rfl, q2, r2⟩ := hb.mono hbr k (by omega)
      have x0 := fun y : Aft wr.heap.size wr => cell_stays y.h q1
      have x1 := fun y : Aft wr.heap.size wr => cell_stays y.h q2
      have x2 := fun y : Aft wr.heap.size wr => cell_stays y.h r1
      have x3 := fun y : Aft wr.heap.size wr => cell_stays y.h r2
      clear ha hb hlm q1 q2 r1 r2
      by_cases he : gs l k = gs m k
      · have hne : ∀ w, (binOp .neq 23 (.agg #[.int .i64 (gs l k).lo, .int .i64 (gs l k).hi]) (.agg #[.int .i64 (gs m k).lo, .int .i64 (gs m k).hi])).run Try.prog w = .ok (.bool false) w := fun w => by rw [neq23]; simp [he]
        have HE := Lib.hid he
        clear he
        go_wp2_with fail
        refine wp_region_aft mixed (by kernel_rfl) ?_
        repeat (go_big_quiet_step (fail))
        refine wpQuiet_nil ?_
        rintro _ ⟨y, rfl⟩
        go_wp2_with fail
        go_roundw
        case rel => exact ⟨k + 1, by omega, by go_num, fun j hj => by
          by_cases e : j = k
          · subst e; exact HE.out
          · exact HK.out j (by omega), hbr.trans (y.h.mono hbr.size)⟩
        case measure => simp [intOf]; omega
      · have hne : ∀ w, (binOp .neq 23 (.agg #[.int .i64 (gs l k).lo, .int .i64 (gs l k).hi]) (.agg #[.int .i64 (gs m k).lo, .int .i64 (gs m k).hi])).run Try.prog w = .ok (.bool true) w := fun w => by rw [neq23]; simp [he]
        have HE := Lib.hid he
        clear he
        go_wp2_with fail
        refine wp_region_aft mixed (by kernel_rfl) ?_
        repeat (go_big_quiet_step (fail))
        refine wpQuiet_nil ?_
        rintro _ ⟨y, rfl⟩
        go_wp2_with fail
        go_ret
        refine ⟨ret_bool ?_, hbr.trans (y.h.mono hbr.size)⟩
        have : l ≠ m := fun e => HE.out (by rw [e])
        simp [this]
    · obtain rfl : k = l.length := by omega
      go_wp2_with fail
      go_ret
      refine ⟨ret_bool ?_, hbr⟩
      have : l = m := eq_gs HL.out.1 HK.out
      simp [this]
set_option maxHeartbeats 1000000 in
theorem spans_ne {l m : List Spn} {a b : Option Addr} {ca cb : Nat} {w : World} (hl : l.length ≠ m.length) (h5 : l.length ≤ 1000000) (h6 : m.length ≤ 1000000) :
    Calls Try.prog 21 #[.slice a l.length ca, .slice b m.length cb] w fun e w' => e = .returned (.bool (decide (l = m))) ∧ Below w.heap.size w w' := by
  have HE : Hid (decide (l = m) = false) := by rw [Hid]; simp; intro e; exact hl (by rw [e])
  have hlb : ((l.length : Int) != (m.length : Int)) = true := by simp; omega
  clear hl
  go_enter Try.func21, Try.ntmps21
  go_wp2_with fail
  go_ret
  exact ⟨ret_bool HE.out.symm, Below.refl _ _⟩
theorem spans21 {l m : List Spn} {a b : Option Addr} {ca cb : Nat} {w : World} (ha : IsSpns w a l) (hb : IsSpns w b m) (h5 : l.length ≤ 30) (h6 : m.length ≤ 30) :
    Calls Try.prog 21 #[.slice a l.length ca, .slice b m.length cb] w fun e w' => e = .returned (.bool (decide (l = m))) ∧ Below w.heap.size w w' := by
  by_cases hl : l.length = m.length
  · rw [← hl]; exact spans_eq ha hb hl h5
  · exact spans_ne hl (by omega) (by omega)
def shfSame (s t : Shf) : Bool := (s.paper == t.paper) && (s.money == t.money) && decide (s.cards = t.cards)
set_option maxHeartbeats 2000000 in
theorem shelf32 {s t : Shf} {a b : Option Addr} {ca cb : Nat} {w : World} (ha : IsSpns w a s.cards) (hb : IsSpns w b t.cards) (h5 : s.cards.length ≤ 30) (h6 : t.cards.length ≤ 30) :
    Calls Try.prog 32 #[.agg #[.int .i64 s.paper, .int .i64 s.money, .slice a s.cards.length ca], .agg #[.int .i64 t.paper, .int .i64 t.money, .slice b t.cards.length cb]] w fun e w' => e = .returned (.bool (shfSame s t)) ∧ Below w.heap.size w w' := by
  have HX := Lib.hid (alloc2 w #[.int .i64 s.paper, .int .i64 s.money, .slice a s.cards.length ca] #[.int .i64 t.paper, .int .i64 t.money, .slice b t.cards.length cb] 48 48)
  have HC := Lib.hid (spans21 (ca := ca) (cb := cb) (ha.mono (alloc2 w #[.int .i64 s.paper, .int .i64 s.money, .slice a s.cards.length ca] #[.int .i64 t.paper, .int .i64 t.money, .slice b t.cards.length cb] 48 48).2.2) (hb.mono (alloc2 w #[.int .i64 s.paper, .int .i64 s.money, .slice a s.cards.length ca] #[.int .i64 t.paper, .int .i64 t.money, .slice b t.cards.length cb] 48 48).2.2) h5 h6)
  clear ha hb
  go_enter Try.func32, Try.ntmps32
  refine wp_seq_hid ?_
  intro K0 HK0
  go_wp2_with fail
  refine HK0.out _ _ ?_
  clear HK0 K0
  revert HX HC
  generalize (w.alloc (.cells #[.int .i64 s.paper, .int .i64 s.money, .slice a s.cards.length ca] 48)).alloc (.cells #[.int .i64 t.paper, .int .i64 t.money, .slice b t.cards.length cb] 48) = w1
  generalize hb3 : w.heap.size + 1 = b3
  generalize hb2 : w.heap.size = b2
  intro HX HC
  have HB2 := Lib.hid hb2
  clear hb2 hb3
  obtain ⟨x0, x1, x2⟩ := sh_cells HX.out.1
  obtain ⟨y0, y1, y2⟩ := sh_cells HX.out.2.1
  have HR : Hid (shfSame s t = ((s.paper == t.paper) && (s.money == t.money) && decide (s.cards = t.cards))) := rfl
  obtain ⟨e1, he1⟩ : ∃ e, (s.paper == t.paper) = e := ⟨_, rfl⟩
  obtain ⟨e2, he2⟩ : ∃ e, (s.money == t.money) = e := ⟨_, rfl⟩
  obtain ⟨e3, he3⟩ : ∃ e, decide (s.cards = t.cards) = e := ⟨_, rfl⟩
  rw [he1, he2, he3] at HR
  rw [he3] at HC
  clear he3
  cases e1 <;> cases e2
  all_goals
    go_wp2_with fail
    first
      | (go_ret; exact ⟨ret_bool (by rw [HR.out]; rfl), HX.out.2.2⟩)
      | (refine ⟨fun _ _ => trivial, ?_⟩; go_wp2_with fail; go_ret; exact ⟨ret_bool (by rw [HR.out]; rfl), HX.out.2.2⟩)
      | (refine HC.out.mono ?_
         rintro e w3 ⟨rfl, hb⟩
         have HB3 := Lib.hid (HX.out.2.2.trans (hb.mono (Nat.le_of_lt (heap_lt HX.out.1))))
         clear hb
         go_wp2_with fail
         go_ret
         exact ⟨ret_bool (by rw [HR.out]; cases e3 <;> rfl), HB3.out⟩)
end Go.Proofs.Ytjkhclijmcmdjaa
namespace Go.Proofs.Ytjkhclijmcmdjaa
open Go.RowKit
set_option linter.unusedVariables false
set_option linter.unusedSimpArgs false
theorem eq_gf {l m : List Fme} (hl : l.length = m.length) (h : ∀ j, j < l.length → gf l j = gf m j) : l = m := by
  refine List.ext_getElem hl (fun i h1 h2 => ?_)
  have := h i h1
  simpa [gf, h1, h2] using this
theorem eq_gi' {l m : List Int} (hl : l.length = m.length) (h : ∀ j, j < l.length → gi l j = gi m j) : l = m := by
  refine List.ext_getElem hl (fun i h1 h2 => ?_)
  have := h i h1
  simpa [gi, h1, h2] using this
set_option maxRecDepth 100000 in
set_option maxHeartbeats 4000000 in
theorem formes_eq {l m : List Fme} {a b : Option Addr} {ca cb : Nat} {w : World} (ha : IsFmes w a l) (hb : IsFmes w b m) (hl : l.length = m.length) (h5 : l.length ≤ 30) (hs : ∀ f ∈ l, f.slots.length ≤ 1000) (hs' : ∀ f ∈ m, f.slots.length ≤ 1000) :
    Calls Try.prog 25 #[.slice a l.length ca, .slice b l.length cb] w fun e w' => e = .returned (.bool (decide (l = m))) ∧ Below w.heap.size w w' := by
  have HL := Lib.hid (And.intro hl (And.intro ha (And.intro hb (And.intro hs hs'))))
  have hlb : ((l.length : Int) == (l.length : Int)) = true := by simp
  clear ha hb hl hs hs'
  go_enter Try.func25, Try.ntmps25
  go_wp2_with fail
  go_loopw [5] (fun i wr => ∃ k : Nat, k ≤ l.length ∧ i = .int .i64 k ∧ Hid (∀ j, j < k → gf l j = gf m j) ∧ Hid (Below w.heap.size w wr)) (fun i _ => l.length - (intOf i).toNat)
  case atStart => exact ⟨0, by omega, rfl, fun j hj => by omega, Below.refl _ _⟩
  case round =>
    obtain ⟨k, hk, rfl, HK, hbr⟩ := hrel
    obtain ⟨wo, rfl⟩ : ∃ x : World, x = wr := ⟨_, rfl⟩
    by_cases hlt : k < l.length
    · obtain ⟨hlm, ha, hb, hs, hs'⟩ := HL.out
      obtain ⟨b1, o1, rfl, ai, ci, q1, r1, z1⟩ := ha.mono hbr.out k hlt
      obtain ⟨b2, o2, rfl, bi, di, q2, r2, z2⟩ := hb.mono hbr.out k (by omega)
      have hm1 := hs (gf l k) (by simp [gf, hlt])
      have hm2 := hs' (gf m k) (by simp [gf, show k < m.length by omega])
      have HLT := Lib.hid hlt
      have HNE : Hid (gf l k ≠ gf m k → l ≠ m) := fun h e => h (by rw [e])
      clear ha hb hlm hs hs'
      revert q1 q2 r1 r2 z1 z2 hm1 hm2 HNE
      generalize hf : gf l k = f
      generalize hg : gf m k = g
      have HFG := Lib.hid (And.intro hf hg)
      clear hf hg
      obtain ⟨fs, ft⟩ := f
      obtain ⟨gs', gt⟩ := g
      simp only
      intro q1 r1 z1 q2 r2 z2 hm1 hm2 HNE
      have x0 := fun y : Aft wo.heap.size wo => cell_stays y.h q1
      have x1 := fun y : Aft wo.heap.size wo => cell_stays y.h r1
      have y0 := fun y : Aft wo.heap.size wo => cell_stays y.h q2
      have y1 := fun y : Aft wo.heap.size wo => cell_stays y.h r2
      have HZ := Lib.hid (And.intro z1 z2)
      have HQ := Lib.hid (And.intro q1 (And.intro r1 (And.intro q2 r2)))
      clear q1 q2 r1 r2 z1 z2
      obtain ⟨e1, he1⟩ : ∃ e, (ft != gt) = e := ⟨_, rfl⟩
      obtain ⟨e2, he2⟩ : ∃ e, ((fs.length : Int) != (gs'.length : Int)) = e := ⟨_, rfl⟩
      cases e1 with
      | true =>
        have HE : Hid (l ≠ m) := HNE.out fun e => by simp at e he1; exact he1 e.2
        have HE1 : Hid ((ft != gt) = true) := he1
        go_upto_region 6 with fail
        refine wp_region_aft mixed (by kernel_rfl) ?_
        repeat (go_big_quiet_step (fail))
        refine wpQuiet_nil ?_
        rintro _ ⟨y, rfl⟩
        have HB := Lib.hid (hbr.out.trans (y.h.mono hbr.out.size))
        go_wp2_with fail
        go_ret
        exact ⟨ret_bool (by simp [HE.out]), HB.out⟩
      | false =>
        cases e2 with
        | true =>
          have HE : Hid (l ≠ m) := HNE.out fun e => by simp at e he2; exact he2 (by rw [e.1])
          go_upto_region 6 with fail
          refine wp_region_aft mixed (by kernel_rfl) ?_
          repeat (go_big_quiet_step (fail))
          refine wpQuiet_nil ?_
          rintro _ ⟨y, rfl⟩
          have HB := Lib.hid (hbr.out.trans (y.h.mono hbr.out.size))
          go_wp2_with fail
          go_ret
          exact ⟨ret_bool (by simp [HE.out]), HB.out⟩
        | false =>
          have HFT : Hid (ft = gt) := by show ft = gt; simpa using he1
          have HFL : Hid (fs.length = gs'.length) := by simp at he2; show _ = _; omega
          go_upto_region 6 with fail
          refine wp_region_aft mixed (by kernel_rfl) ?_
          repeat (go_big_quiet_step (fail))
          refine wpQuiet_nil ?_
          rintro _ ⟨y, rfl⟩
          have HB := Lib.hid (And.intro y.h (hbr.out.trans (y.h.mono hbr.out.size)))
          clear x0 x1 y0 y1 he1 he2
          revert HB
          generalize y.v = w3
          intro HB
          go_wp2_with fail
          go_loopw [6] (fun i wr => ∃ j : Nat, j ≤ fs.length ∧ i = .int .i64 j ∧ Hid (∀ u, u < j → gi fs u = gi gs' u) ∧ Hid (Below wo.heap.size wo wr)) (fun i _ => fs.length - (intOf i).toNat)
          case atStart => exact ⟨0, by omega, rfl, fun j hj => by omega, HB.out.1⟩
          case round =>
            obtain ⟨j, hj, rfl, HJ, HW⟩ := hrel
            have q1 := cell_stays HW.out HQ.out.1
            have r1 := cell_stays HW.out HQ.out.2.2.1
            by_cases hlj : j < fs.length
            · obtain ⟨b3, o3, hab, c3⟩ := (HZ.out.1.mono HW.out) j hlj
              obtain ⟨b4, o4, hab4, c4⟩ := (HZ.out.2.mono HW.out) j (by have := HFL.out; omega)
              rw [hab] at q1
              rw [hab4, ← HFL.out] at r1
              have x0 := fun y : Aft wr.heap.size wr => cell_stays y.h q1
              have y0 := fun y : Aft wr.heap.size wr => cell_stays y.h r1
              have x3 := fun y : Aft wr.heap.size wr => cell_stays y.h c3
              have y3 := fun y : Aft wr.heap.size wr => cell_stays y.h c4
              have HAB := Lib.hid (And.intro hab hab4)
              clear hab hab4 c3 c4 r1
              by_cases he : gi fs j = gi gs' j
              · have hb : (gi fs j != gi gs' j) = false := by simpa using he
                have HE := Lib.hid he
                clear he
                go_upto_region 11 with fail
                refine wp_region_aft mixed (by kernel_rfl) ?_
                repeat (go_big_quiet_step (fail))
                refine wpQuiet_nil ?_
                rintro _ ⟨y, rfl⟩
                have HB5 := Lib.hid (HW.out.trans (y.h.mono HW.out.size))
                clear x0 y0 x3 y3 q1
                go_wp2_with fail
                go_roundw
                case rel => exact ⟨j + 1, by omega, by go_num, fun u hu => by
                  by_cases e : u = j
                  · subst e; exact HE.out
                  · exact HJ.out u (by omega), HB5.out⟩
                case measure => simp [intOf]; omega
              · have hb : (gi fs j != gi gs' j) = true := by simpa using he
                have HE : Hid (l ≠ m) := HNE.out fun e => by simp at e; exact he (by rw [e.1])
                clear he
                go_upto_region 11 with fail
                refine wp_region_aft mixed (by kernel_rfl) ?_
                repeat (go_big_quiet_step (fail))
                refine wpQuiet_nil ?_
                rintro _ ⟨y, rfl⟩
                have HB5 := Lib.hid (hbr.out.trans ((HW.out.trans (y.h.mono HW.out.size)).mono hbr.out.size))
                go_wp2_with fail
                go_ret
                exact ⟨ret_bool (by simp [HE.out]), HB5.out⟩
            · have HE : Hid (gf l k = gf m k) := by
                have e := eq_gi' HFL.out (fun u hu => HJ.out u (by omega))
                rw [Hid, HFG.out.1, HFG.out.2, e, HFT.out]
              have HB5 := Lib.hid (hbr.out.trans (HW.out.mono hbr.out.size))
              go_wp2_with fail
              go_roundw
              case rel => exact ⟨k + 1, by omega, by go_num, fun u hu => by
                by_cases e : u = k
                · subst e; exact HE.out
                · exact HK.out u (by omega), HB5.out⟩
              case measure => simp [intOf]; omega
    · obtain rfl : k = l.length := by omega
      go_wp2_with fail
      go_ret
      refine ⟨ret_bool ?_, hbr.out⟩
      have : l = m := eq_gf HL.out.1 HK.out
      simp [this]
set_option maxHeartbeats 1000000 in
theorem formes_ne {l m : List Fme} {a b : Option Addr} {ca cb : Nat} {w : World} (hl : l.length ≠ m.length) (h5 : l.length ≤ 1000000) (h6 : m.length ≤ 1000000) :
    Calls Try.prog 25 #[.slice a l.length ca, .slice b m.length cb] w fun e w' => e = .returned (.bool (decide (l = m))) ∧ Below w.heap.size w w' := by
  have HE : Hid (decide (l = m) = false) := by rw [Hid]; simp; intro e; exact hl (by rw [e])
  have hlb : ((l.length : Int) != (m.length : Int)) = true := by simp; omega
  clear hl
  go_enter Try.func25, Try.ntmps25
  go_wp2_with fail
  go_ret
  exact ⟨ret_bool HE.out.symm, Below.refl _ _⟩
theorem formes25 {l m : List Fme} {a b : Option Addr} {ca cb : Nat} {w : World} (ha : IsFmes w a l) (hb : IsFmes w b m) (h5 : l.length ≤ 30) (h6 : m.length ≤ 30) (hs : ∀ f ∈ l, f.slots.length ≤ 1000) (hs' : ∀ f ∈ m, f.slots.length ≤ 1000) :
    Calls Try.prog 25 #[.slice a l.length ca, .slice b m.length cb] w fun e w' => e = .returned (.bool (decide (l = m))) ∧ Below w.heap.size w w' := by
  by_cases hl : l.length = m.length
  · rw [← hl]; exact formes_eq ha hb hl h5 hs hs'
  · exact formes_ne hl (by omega) (by omega)
end Go.Proofs.Ytjkhclijmcmdjaa
