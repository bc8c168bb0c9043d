/- All orders: what holds while they are gathered. All orders: two drawn regions: an order that is whole; one card more. -/
import Derived.Test.YtnfhlbmapfoifaaW23
import Derived.Test.YtnfhlbmapfoifaaW16
import Derived.Deep.RegionHeld3
import Derived.Test.YtnfhlbmapfoifaaW12
namespace Go.Proofs.Ytnfhlbmapfoifaa
open Go.RowKit
set_option linter.unusedVariables false

abbrev selfO (pb lb ob : Nat) : Value := .func (.func 101) #[] #[.pointer (some ⟨pb, 0, none⟩), .pointer (some ⟨lb, 0, none⟩), .pointer (some ⟨ob, 0, none⟩)]
/-- What has been gathered. C: the blocks that are held. -/
structure OrC (W0 : World) (lb : Nat) (acc : List (List Int)) (A : World) (C : Nat → Prop) : Prop where
  same : Same (fun k => k = lb) W0 A
  lt : lb < W0.heap.size
  ex : ∃ (v : Value) (vs : List Value), A.heap[lb]? = some (.cells #[v] 32 (0, 0)) ∧ A.ownsRow W0.heap.size 42 1 v acc.length vs ∧ RowsOf A W0.heap.size vs acc ∧ (∀ g, v.ownBlock = some g → C g) ∧ ∀ vc ∈ vs, ∀ g, vc.ownBlock = some g → C g
  bd : ∀ k, C k → W0.heap.size ≤ k ∧ k < A.heap.size
theorem OrC.below {W0 : World} {lb : Nat} {acc : List (List Int)} {A B : World} {C : Nat → Prop} (h : OrC W0 lb acc A C) (hb : Below A.heap.size A B) : OrC W0 lb acc B C := by
  obtain ⟨h1, h0, ⟨v, vs, h2, h3, h4, h5, h6⟩, h7⟩ := h
  exact ⟨h1.trans (Same.of_below _ hb), h0, ⟨v, vs, (hb.block _ (heap_lt h2)).trans h2, own_below h3 hb, h4.blocks (fun vc hvc g hg => hb.block _ (rows_lt h4 hvc hg).2), h5, h6⟩, fun k hk => ⟨(h7 k hk).1, Nat.lt_of_lt_of_le (h7 k hk).2 hb.size⟩⟩
/-- How a call that goes on from some cards ends. -/
def OrPost (W0 : World) (lb : Nat) (acc : List (List Int)) (A : World) (C : Nat → Prop) (k : Nat) (A' : World) : Prop :=
  ∃ C' : Nat → Prop, OrC W0 lb acc A' C' ∧ A.heap.size ≤ A'.heap.size ∧ ∀ b, W0.heap.size ≤ b → b < A.heap.size → ¬ C b → ¬ C' b ∧ KeptTo 3 k A A' b
theorem infoO : (Try.prog.info? 42).map (fun i => (i.zero, i.size, i.bytes)) = some (some (.slice none 0 0), 1, 24) := by kernel_rfl
/-- One order more. -/
theorem OrC.more {W0 : World} {lb : Nat} {acc : List (List Int)} {A V : World} {C : Nat → Prop} {x : List Int} {vc : Value} (h : OrC W0 lb acc A C) (hb : Below A.heap.size A V) (hvc : V.ownsRow A.heap.size 3 1 vc x.length (x.map (Value.int .i64))) (hi : acc.length ≤ 1000000) (k : Nat) {v : Value} (hv : A.cell? ⟨lb, 0, none⟩ = some v) :
    ∃ v' w', (Builtin.append_ #[32, 32] 32 #[v, .slice (some ⟨V.heap.size, 0, none⟩) 1 1]).run Try.prog (V.alloc (.cells #[vc] 42)) = .ok v' w' ∧ (∃ a c, v' = .slice a (acc.length + 1) c) ∧ (∃ u, w'.cell? ⟨lb, 0, none⟩ = some u) ∧ w'.frozen? ⟨lb, 0, none⟩ = false ∧
      OrPost W0 lb (acc ++ [x]) A C k (w'.setCell ⟨lb, 0, none⟩ v') := by
  obtain ⟨i0, hi0, hz0, hz1, hz2⟩ := info_parts infoO
  have hC := h.below hb
  obtain ⟨s1, hlt, ⟨v0, vs, h3, h4, h5, h6, h7⟩, hbd⟩ := hC
  have hA := h.ex
  obtain ⟨u0, us, hA3, _⟩ := hA
  rw [cell_of_heap hA3] at hv
  cases hv
  have hVA := (hb.block _ (heap_lt hA3)).trans hA3
  rw [h3] at hVA
  cases hVA
  have hone : vc.oneCell' = true := by
    rcases hvc.2 with ⟨rfl, _⟩ | ⟨g, cap, cur, rfl, _⟩ <;> rfl
  have hV1 := World.alloc_heap_new V (.cells #[vc] 42)
  have hW0 : W0.heap.size ≤ A.heap.size := h.same.size
  have hAV := hb.size
  obtain ⟨v', w', hr, hn, hg, hor, _⟩ := append_keep (P := Try.prog) (w := V.alloc (.cells #[vc] 42)) W0.heap.size 32 32 42 i0 _ 24 Try.underlying32 hi0 hz0 hz1 hz2 rfl v0 acc.length vs (own_blocks h4 (fun g hg => Below.heap_alloc _ _ _ (h4.lt g hg).2)) ⟨V.heap.size, 0, none⟩ vc (by rw [cell_of_heap hV1]; rfl) hone (by simp [maxLen]; omega) (by omega) (by simp; omega)
  have hrow : ∀ k, v0.ownBlock = some k → W0.heap.size ≤ k ∧ k < V.heap.size := fun k hk => h4.lt k hk
  have hVw : V.heap.size < w'.heap.size := by have := hg.size; simp at this; omega
  have hk1 : ∀ k, k < V.heap.size → v0.ownBlock ≠ some k → w'.heap[k]? = V.heap[k]? := fun k hk hne => (hg.block k (by simp; omega) (fun e => hne e.symm)).trans (Below.heap_alloc _ _ _ hk)
  have hlbn : v0.ownBlock ≠ some lb := fun e => by have := (hrow _ e).1; omega
  have hlb' := (hk1 lb (heap_lt h3) hlbn).trans h3
  have hk2 : ∀ k, k < V.heap.size → v0.ownBlock ≠ some k → k ≠ lb → (w'.setCell ⟨lb, 0, none⟩ v').heap[k]? = V.heap[k]? := fun k hk hne hkt => (Below.heap_setCell _ _ _ _ hkt).trans (hk1 k hk hne)
  have hrow' : ∀ k, v'.ownBlock = some k → W0.heap.size ≤ k ∧ k < w'.heap.size := fun k hk => hn.lt k hk
  have hvclt : ∀ g, vc.ownBlock = some g → A.heap.size ≤ g ∧ g < V.heap.size := fun g hg => hvc.lt g hg
  have hsl : ∃ a c, v' = .slice a (acc.length + 1) c := by obtain ⟨a, c, e, _⟩ := own_slice hn; exact ⟨a, c, e⟩
  refine ⟨v', w', hr, hsl, ⟨_, by rw [cell_of_heap hlb']; rfl⟩, frozen_of_heap hlb', fun k => C k ∨ A.heap.size ≤ k ∧ k < w'.heap.size, ⟨?_, hlt, ⟨v', vs ++ [vc], heap_setCell_at hlb' _, ?_, ?_, ?_, ?_⟩, ?_⟩, by simp; omega, ?_⟩
  · have hs : Same (fun k => k = lb) W0 w' := by
      have hg' : Same (fun k => k = lb) W0 (V.alloc (.cells #[vc] 42)) := s1.alloc _
      exact hg'.grown hg (fun k hk => .inr (hrow k hk).1)
    exact hs.setCell (.inl rfl) _
  · rw [List.length_append]
    exact own_blocks hn (fun g hg' => Below.heap_setCell _ _ _ _ (fun e => by have e' : g = lb := e; have := (hrow' g hg').1; omega))
  · refine ⟨by simp [h5.1], fun j y hy => ?_⟩
    rcases Nat.lt_trichotomy j vs.length with hj | hj | hj
    · rw [List.getElem?_append_left (by rw [← h5.1]; exact hj)] at hy
      obtain ⟨c', hc1, hc2⟩ := h5.2 j y hy
      exact ⟨c', by rw [List.getElem?_append_left hj]; exact hc1, own_blocks hc2 (fun g hg' => hk2 g (hc2.lt g hg').2 (own_apart hc2 h4 (by decide) g hg') (fun e => by have := (hc2.lt g hg').1; omega))⟩
    · have hj2 : j = acc.length := by rw [← h5.1]; exact hj
      rw [hj2, List.getElem?_append_right (Nat.le_refl _)] at hy
      simp at hy
      subst hy
      refine ⟨vc, by rw [hj]; simp, own_blocks (own_base hvc hW0) (fun g hg' => hk2 g (hvc.lt g hg').2 (own_apart hvc h4 (by decide) g hg') (fun e => by have := (hvc.lt g hg').1; omega))⟩
    · rw [List.getElem?_eq_none (by simp [← h5.1]; omega)] at hy
      cases hy
  · intro g hg'
    have hlg := (hrow' g hg').2
    rcases hor with e | e
    · rw [e] at hg'
      exact .inl (h6 g hg')
    · rw [e] at hg'
      cases hg'
      exact .inr ⟨by simp; omega, hlg⟩
  · intro c' hc' g hg'
    rcases List.mem_append.1 hc' with hc' | hc'
    · exact .inl (h7 c' hc' g hg')
    · rw [List.mem_singleton.1 hc'] at hg'
      have := hvclt g hg'
      exact .inr ⟨this.1, by omega⟩
  · intro k hk
    simp
    rcases hk with hk | hk
    · have := hbd k hk; omega
    · omega
  · intro b hb0 hb' hn'
    refine ⟨fun hk => ?_, ?_⟩
    · rcases hk with hk | hk
      · exact hn' hk
      · omega
    · refine KeptTo.of_eq ((hk2 b (by omega) (fun e => hn' (h6 b e)) (by omega)).trans (hb.block b hb'))
end Go.Proofs.Ytnfhlbmapfoifaa

namespace Go.Proofs.Ytnfhlbmapfoifaa
open Go.RowKit
set_option linter.unusedVariables false

structure orAppF (av : Option Addr) (k : Nat) (cv : Nat) (lb : Nat) (vl : Value) (n : Nat) (S0 : World → Prop) (S1 : Option Addr × Nat → World → Prop) (S2 : Option Addr × Nat → Value → World → Prop) (S3 : Option Addr × Nat → Value → Option Addr × Nat → World → Prop) (S4 : Option Addr × Nat → Value → Option Addr × Nat → World → Prop) (d : Nat → Bool) (x19 x20 x21 x22 x23 : Value) (rc : Option Addr × Nat) (r2 : Option Addr × Nat) (w : World) : Prop where
  q2 : d 2 = true → d 1 = true
  q3 : d 3 = true → d 2 = true
  q4 : d 4 = true → d 0 = true ∧ d 2 = true ∧ d 3 = true
  q5 : d 5 = true → d 0 = true ∧ d 1 = true ∧ d 2 = true ∧ d 3 = true ∧ d 4 = true
  f0 : d 0 = true → x19 = vl
  f1 : d 1 = true → x20 = .slice av k cv
  f2 : d 2 = true → x21 = .slice rc.1 k rc.2
  f4 : d 4 = true → x23 = .slice r2.1 (n + 1) r2.2
  st0 : d 2 = false → S0 w
  st1 : d 2 = true → d 3 = false → S1 rc w
  st2 : d 3 = true → d 4 = false → S2 rc x22 w
  st3 : d 4 = true → d 5 = false → S3 rc x22 r2 w
  st4 : d 5 = true → S4 rc x22 r2 w
noncomputable def orAppC : Code := (Try.f101.body.bind (regionAt 2)).getD .skip
set_option maxRecDepth 100000 in
set_option maxHeartbeats 4000000 in
theorem orApp {av : Option Addr} {k : Nat} {cv : Nat} {lb : Nat} {vl : Value} {n : Nat} {S0 : World → Prop} {S1 : Option Addr × Nat → World → Prop} {S2 : Option Addr × Nat → Value → World → Prop} {S3 : Option Addr × Nat → Value → Option Addr × Nat → World → Prop} {S4 : Option Addr × Nat → Value → Option Addr × Nat → World → Prop} {Q : Exit → Act → World → Prop} {W1 : World} (h0 : S0 W1.drew)
    (kl0 : Hid (∀ (rc : Option Addr × Nat) (x22 : Value) (w : World), (S0 w ∨ S1 rc w ∨ S2 rc x22 w) → w.cell? ⟨lb, 0, none⟩ = some (vl)))
    (kc2 : Hid (∀ (w : World), S0 w → Calls Try.prog 103 #[.slice av k cv] w fun e w' => ∃ rc : Option Addr × Nat, e = .returned (.slice rc.1 k rc.2) ∧ S1 rc w'))
    (kc3 : Hid (∀ (rc : Option Addr × Nat) (w : World), S1 rc w → S2 rc (.slice (some ⟨w.heap.size, 0, none⟩) 1 1) (w.alloc (.cells #[.slice rc.1 k rc.2] 42))))
    (kc4 : Hid (∀ (rc : Option Addr × Nat) (x22 : Value) (w : World), S2 rc x22 w → ∃ (r2 : Option Addr × Nat) (w' : World), (Builtin.append_ #[32, 32] 32 #[vl, x22]).run Try.prog w = .ok (.slice r2.1 (n + 1) r2.2) w' ∧ S3 rc x22 r2 w'))
    (kc5 : Hid (∀ (rc : Option Addr × Nat) (x22 : Value) (r2 : Option Addr × Nat) (w : World), S3 rc x22 r2 w → (∃ u, w.cell? ⟨lb, 0, none⟩ = some u) ∧ w.frozen? ⟨lb, 0, none⟩ = false ∧ S4 rc x22 r2 (w.setCell ⟨lb, 0, none⟩ (.slice r2.1 (n + 1) r2.2))))
    {s1 s3 s4 s5 s6 s7 s8 s9 s10 s11 s12 s13 s14 s15 s16 s17 s18 s19 s20 s21 s22 s23 s24 s25 s26 s27 s28 s29 s30 s31 s32 s33 s34 s35 s36 s37 s38 s39 s40 s41 s42 s43 : Value} {dd : List Deferred}
    (hQ : ∀ (rc : Option Addr × Nat) (x22 : Value) (r2 : Option Addr × Nat) (w' : World), S4 rc x22 r2 w' → Q .normal { tmps := #[.slice av k cv, s1, .pointer (some ⟨lb, 0, none⟩), s3, s4, s5, s6, s7, s8, s9, s10, s11, s12, s13, s14, s15, s16, s17, s18, vl, .slice av k cv, .slice rc.1 k rc.2, x22, .slice r2.1 (n + 1) r2.2, s24, s25, s26, s27, s28, s29, s30, s31, s32, s33, s34, s35, s36, s37, s38, s39, s40, s41, s42, s43], defers := dd } w') :
    Code.wpIn (wideAt none) 0 Try.prog orAppC Q { tmps := #[.slice av k cv, s1, .pointer (some ⟨lb, 0, none⟩), s3, s4, s5, s6, s7, s8, s9, s10, s11, s12, s13, s14, s15, s16, s17, s18, s19, s20, s21, s22, s23, s24, s25, s26, s27, s28, s29, s30, s31, s32, s33, s34, s35, s36, s37, s38, s39, s40, s41, s42, s43], defers := dd } W1 := by
  have HQ := Lib.hid hQ
  clear hQ
  conv => arg 4; whnf
  refine wpIn_region_invG mixed (by kernel_rfl) (fun d_ a_ w' => ∃ (x19 : Value) (x20 : Value) (x21 : Value) (x22 : Value) (x23 : Value) (rc : Option Addr × Nat) (r2 : Option Addr × Nat), a_ = { tmps := #[.slice av k cv, s1, .pointer (some ⟨lb, 0, none⟩), s3, s4, s5, s6, s7, s8, s9, s10, s11, s12, s13, s14, s15, s16, s17, s18, x19, x20, x21, x22, x23, s24, s25, s26, s27, s28, s29, s30, s31, s32, s33, s34, s35, s36, s37, s38, s39, s40, s41, s42, s43], defers := dd } ∧ orAppF av k cv lb vl n S0 S1 S2 S3 S4 d_ x19 x20 x21 x22 x23 rc r2 w') ?_ ?_ ?_
  · refine ⟨s19, s20, s21, s22, s23, default, default, rfl, ?_⟩
    constructor <;> first | rfl | (intro h; cases h; done) | (intro _; exact h0) | exact h0
  · refine ⟨?_, ?_, ?_, ?_, ?_, ?_, trivial⟩
    all_goals
      rintro d_ a_ w1 K hd_ hdep ⟨x19, x20, x21, x22, x23, rc, r2, rfl, F⟩ HK
      simp [Region.binds] at hdep
    · have hst : S0 w1 ∨ S1 rc w1 ∨ S2 rc x22 w1 := by
        cases e1 : d_ 2 with
        | false => exact .inl ((F.st0 e1))
        | true =>
          cases e2 : d_ 3 with
          | false => exact .inr (.inl ((F.st1 e1 e2)))
          | true =>
            have n_ : d_ 4 = false := by
              cases e_ : d_ 4 with
              | false => rfl
              | true => have h2 := (F.q4 e_).1; rw [show d_ 0 = false from hd_] at h2; cases h2
            exact .inr (.inr ((F.st2 e2 n_)))
      have kk := kl0.out rc x22 w1 hst
      clear hst
      have HF : Hid (orAppF av k cv lb vl n S0 S1 S2 S3 S4 (upd d_ 0) (vl) x20 x21 x22 x23 rc r2 w1) := ⟨F.q2, F.q3, fun h => ⟨rfl, (F.q4 h).2.1, (F.q4 h).2.2⟩, fun h => ⟨rfl, (F.q5 h).2.1, (F.q5 h).2.2.1, (F.q5 h).2.2.2.1, (F.q5 h).2.2.2.2⟩, fun _ => rfl, F.f1, F.f2, F.f4, F.st0, F.st1, F.st2, F.st3, F.st4⟩
      clear F
      go_simp
      exact HK.out _ _ ⟨_, _, _, _, _, _, _, rfl, HF.out⟩
    · have HF : Hid (orAppF av k cv lb vl n S0 S1 S2 S3 S4 (upd d_ 1) x19 (.slice av k cv) x21 x22 x23 rc r2 w1) := ⟨fun h => rfl, F.q3, F.q4, fun h => ⟨(F.q5 h).1, rfl, (F.q5 h).2.2.1, (F.q5 h).2.2.2.1, (F.q5 h).2.2.2.2⟩, F.f0, fun _ => rfl, F.f2, F.f4, F.st0, F.st1, F.st2, F.st3, F.st4⟩
      clear F
      go_simp
      exact HK.out _ _ ⟨_, _, _, _, _, _, _, rfl, HF.out⟩
    · have hS := F.st0  hd_
      obtain rfl := F.f1 (by simp [hdep])
      have hc := kc2.out w1 hS
      have HF := Lib.hid F
      clear F
      go_simp
      refine ⟨trivial, rfl, wideAt_calls (hc.mono ?_)⟩
      rintro e w5 ⟨v_, rfl, hres⟩
      exact HK.out _ _ ⟨_, _, _, _, _, _, _, rfl, ⟨fun _ => (show _ from (by simp [hdep] : d_ 1 = true)), fun h => rfl, fun h => ⟨(HF.out.q4 h).1, rfl, (HF.out.q4 h).2.2⟩, fun h => ⟨(HF.out.q5 h).1, (HF.out.q5 h).2.1, rfl, (HF.out.q5 h).2.2.2.1, (HF.out.q5 h).2.2.2.2⟩, HF.out.f0, HF.out.f1, fun _ => rfl, HF.out.f4, fun h => (by simp [upd] at h), fun _ _ => hres, fun h _ => (by have h2 : d_ 2 = true := (HF.out.q3 h); rw [show d_ 2 = false from hd_] at h2; cases h2), fun h _ => (by have h2 : d_ 2 = true := (HF.out.q4 h).2.1; rw [show d_ 2 = false from hd_] at h2; cases h2), fun h => (by have h2 : d_ 2 = true := (HF.out.q5 h).2.2.1; rw [show d_ 2 = false from hd_] at h2; cases h2)⟩⟩
    · have hS := F.st1 (by simp [hdep] : d_ 2 = true) hd_
      obtain rfl := F.f2 (by simp [hdep])
      have hres := kc3.out rc w1 hS
      have HF : Hid (orAppF av k cv lb vl n S0 S1 S2 S3 S4 (upd d_ 3) x19 x20 (.slice rc.1 k rc.2) ((.slice (some ⟨w1.heap.size, 0, none⟩) 1 1)) x23 rc r2 (w1.alloc (.cells #[.slice rc.1 k rc.2] 42))) := ⟨F.q2, fun _ => (show _ from (by simp [hdep] : d_ 2 = true)), fun h => ⟨(F.q4 h).1, (F.q4 h).2.1, rfl⟩, fun h => ⟨(F.q5 h).1, (F.q5 h).2.1, (F.q5 h).2.2.1, rfl, (F.q5 h).2.2.2.2⟩, F.f0, F.f1, F.f2, F.f4, fun h => (by have h2 : d_ 2 = false := h; rw [(by simp [hdep] : d_ 2 = true)] at h2; cases h2), fun _ h => (by simp [upd] at h), fun _ _ => hres, fun h _ => (by have h2 : d_ 3 = true := (F.q4 h).2.2; rw [show d_ 3 = false from hd_] at h2; cases h2), fun h => (by have h2 : d_ 3 = true := (F.q5 h).2.2.2.1; rw [show d_ 3 = false from hd_] at h2; cases h2)⟩
      clear F hS hres
      go_simp
      exact HK.out _ _ ⟨_, _, _, _, _, _, _, rfl, HF.out⟩
    · have hS := F.st2 (by simp [hdep] : d_ 3 = true) hd_
      obtain rfl := F.f0 (by simp [hdep])
      obtain ⟨v_, w_, hr, hres⟩ := kc4.out rc x22 w1 hS
      rw [if_pos (by rfl)]
      refine wpIn_append_run (.tmp 19) (.tmp 22) 32 rfl _ _ _ _ rfl rfl hr ?_
      exact HK.out _ _ ⟨_, _, _, _, _, _, _, rfl, ⟨F.q2, F.q3, fun _ => ⟨(show _ from (by simp [hdep] : d_ 0 = true)), (show _ from (by simp [hdep] : d_ 2 = true)), (show _ from (by simp [hdep] : d_ 3 = true))⟩, fun h => ⟨(F.q5 h).1, (F.q5 h).2.1, (F.q5 h).2.2.1, (F.q5 h).2.2.2.1, rfl⟩, F.f0, F.f1, F.f2, fun _ => rfl, fun h => (by have h2 : d_ 2 = false := h; rw [(by simp [hdep] : d_ 2 = true)] at h2; cases h2), fun _ h => (by have h2 : d_ 3 = false := h; rw [(by simp [hdep] : d_ 3 = true)] at h2; cases h2), fun _ h => (by simp [upd] at h), fun _ _ => hres, fun h => (by have h2 : d_ 4 = true := (F.q5 h).2.2.2.2; rw [show d_ 4 = false from hd_] at h2; cases h2)⟩⟩
    · have hS := F.st3 (by simp [hdep] : d_ 4 = true) hd_
      obtain rfl := F.f4 (by simp [hdep])
      obtain ⟨⟨u0, kcell0⟩, kfr0, hres⟩ := kc5.out rc x22 r2 w1 hS
      have HF : Hid (orAppF av k cv lb vl n S0 S1 S2 S3 S4 (upd d_ 5) x19 x20 x21 x22 (.slice r2.1 (n + 1) r2.2) rc r2 (w1.setCell ⟨lb, 0, none⟩ (.slice r2.1 (n + 1) r2.2))) := ⟨F.q2, F.q3, F.q4, fun _ => ⟨(show _ from (by simp [hdep] : d_ 0 = true)), (show _ from (by simp [hdep] : d_ 1 = true)), (show _ from (by simp [hdep] : d_ 2 = true)), (show _ from (by simp [hdep] : d_ 3 = true)), (show _ from (by simp [hdep] : d_ 4 = true))⟩, F.f0, F.f1, F.f2, F.f4, fun h => (by have h2 : d_ 2 = false := h; rw [(by simp [hdep] : d_ 2 = true)] at h2; cases h2), fun _ h => (by have h2 : d_ 3 = false := h; rw [(by simp [hdep] : d_ 3 = true)] at h2; cases h2), fun _ h => (by have h2 : d_ 4 = false := h; rw [(by simp [hdep] : d_ 4 = true)] at h2; cases h2), fun _ h => (by simp [upd] at h), fun _ => hres⟩
      clear F hS hres
      go_simp
      exact HK.out _ _ ⟨_, _, _, _, _, _, _, rfl, HF.out⟩
  · rintro d_ a_ w1 hall ⟨x19, x20, x21, x22, x23, rc, r2, rfl, F⟩
    have hall' : ∀ k, k < 6 → d_ k = true := hall
    obtain rfl := F.f0 (hall' 0 (by decide))
    obtain rfl := F.f1 (hall' 1 (by decide))
    obtain rfl := F.f2 (hall' 2 (by decide))
    obtain rfl := F.f4 (hall' 4 (by decide))
    exact HQ.out rc x22 r2 w1 (F.st4 (hall' 5 (by decide)))
structure orMoreF (av : Option Addr) (k : Nat) (cv : Nat) (pb : Nat) (lb : Nat) (ob : Nat) (f : Int) (S0 : World → Prop) (S1 : Value → World → Prop) (S2 : Value → Value → World → Prop) (S3 : Value → Value → Value → World → Prop) (d : Nat → Bool) (x37 x38 x39 x40 x41 x42 : Value) (w : World) : Prop where
  q3 : d 3 = true → d 2 = true
  q4 : d 4 = true → d 1 = true ∧ d 3 = true
  q5 : d 5 = true → d 0 = true ∧ d 4 = true
  f0 : d 0 = true → x37 = .func (.func 101) #[] #[.pointer (some ⟨pb, 0, none⟩), .pointer (some ⟨lb, 0, none⟩), .pointer (some ⟨ob, 0, none⟩)]
  f1 : d 1 = true → x38 = .slice av k cv
  f2 : d 2 = true → x39 = .int .i64 f
  st0 : d 3 = false → S0 w
  st1 : d 3 = true → d 4 = false → S1 x40 w
  st2 : d 4 = true → d 5 = false → S2 x40 x41 w
  st3 : d 5 = true → S3 x40 x41 x42 w
noncomputable def orMoreC : Code := (Try.f101.body.bind (regionAt 7)).getD .skip
set_option maxRecDepth 100000 in
set_option maxHeartbeats 4000000 in
theorem orMore {av : Option Addr} {k : Nat} {cv : Nat} {pb : Nat} {lb : Nat} {ob : Nat} {f : Int} {S0 : World → Prop} {S1 : Value → World → Prop} {S2 : Value → Value → World → Prop} {S3 : Value → Value → Value → World → Prop} {Q : Exit → Act → World → Prop} {W1 : World} (h0 : S0 W1.drew)
    (kl0 : Hid (∀ (x40 : Value) (x41 : Value) (w : World), (S0 w ∨ S1 x40 w ∨ S2 x40 x41 w) → w.cell? ⟨ob, 0, none⟩ = some (.func (.func 101) #[] #[.pointer (some ⟨pb, 0, none⟩), .pointer (some ⟨lb, 0, none⟩), .pointer (some ⟨ob, 0, none⟩)])))
    (kc3 : Hid (∀ (w : World), S0 w → S1 (.slice (some ⟨w.heap.size, 0, none⟩) 1 1) (w.alloc (.cells #[.int .i64 f] 3))))
    (kc4 : Hid (∀ (x40 : Value) (w : World), S1 x40 w → ∃ (x41 : Value) (w' : World), (Builtin.append_ #[42, 42] 42 #[.slice av k cv, x40]).run Try.prog w = .ok (x41) w' ∧ S2 x40 x41 w'))
    (kc5 : Hid (∀ (x40 : Value) (x41 : Value) (w : World), S2 x40 x41 w → Calls Try.prog 101 #[x41, .pointer (some ⟨pb, 0, none⟩), .pointer (some ⟨lb, 0, none⟩), .pointer (some ⟨ob, 0, none⟩)] w fun e w' => ∃ x42 : Value, e = .returned (x42) ∧ S3 x40 x41 x42 w'))
    {s1 s2 s4 s6 s7 s8 s9 s10 s11 s12 s13 s14 s15 s16 s17 s18 s19 s20 s21 s22 s23 s24 s25 s26 s27 s28 s29 s30 s31 s32 s33 s34 s35 s36 s37 s38 s39 s40 s41 s42 s43 : Value} {dd : List Deferred}
    (hQ : ∀ (x40 : Value) (x41 : Value) (x42 : Value) (w' : World), S3 x40 x41 x42 w' → Q .normal { tmps := #[.slice av k cv, s1, s2, .pointer (some ⟨ob, 0, none⟩), s4, .int .i64 f, s6, s7, s8, s9, s10, s11, s12, s13, s14, s15, s16, s17, s18, s19, s20, s21, s22, s23, s24, s25, s26, s27, s28, s29, s30, s31, s32, s33, s34, s35, s36, .func (.func 101) #[] #[.pointer (some ⟨pb, 0, none⟩), .pointer (some ⟨lb, 0, none⟩), .pointer (some ⟨ob, 0, none⟩)], .slice av k cv, .int .i64 f, x40, x41, x42, s43], defers := dd } w') :
    Code.wpIn (wideAt none) 0 Try.prog orMoreC Q { tmps := #[.slice av k cv, s1, s2, .pointer (some ⟨ob, 0, none⟩), s4, .int .i64 f, s6, s7, s8, s9, s10, s11, s12, s13, s14, s15, s16, s17, s18, s19, s20, s21, s22, s23, s24, s25, s26, s27, s28, s29, s30, s31, s32, s33, s34, s35, s36, s37, s38, s39, s40, s41, s42, s43], defers := dd } W1 := by
  have HQ := Lib.hid hQ
  clear hQ
  conv => arg 4; whnf
  refine wpIn_region_invG mixed (by kernel_rfl) (fun d_ a_ w' => ∃ (x37 : Value) (x38 : Value) (x39 : Value) (x40 : Value) (x41 : Value) (x42 : Value), a_ = { tmps := #[.slice av k cv, s1, s2, .pointer (some ⟨ob, 0, none⟩), s4, .int .i64 f, s6, s7, s8, s9, s10, s11, s12, s13, s14, s15, s16, s17, s18, s19, s20, s21, s22, s23, s24, s25, s26, s27, s28, s29, s30, s31, s32, s33, s34, s35, s36, x37, x38, x39, x40, x41, x42, s43], defers := dd } ∧ orMoreF av k cv pb lb ob f S0 S1 S2 S3 d_ x37 x38 x39 x40 x41 x42 w') ?_ ?_ ?_
  · refine ⟨s37, s38, s39, s40, s41, s42, rfl, ?_⟩
    constructor <;> first | rfl | (intro h; cases h; done) | (intro _; exact h0) | exact h0
  · refine ⟨?_, ?_, ?_, ?_, ?_, ?_, trivial⟩
    all_goals
      rintro d_ a_ w1 K hd_ hdep ⟨x37, x38, x39, x40, x41, x42, rfl, F⟩ HK
      simp [Region.binds] at hdep
    · have hst : S0 w1 ∨ S1 x40 w1 ∨ S2 x40 x41 w1 := by
        cases e1 : d_ 3 with
        | false => exact .inl ((F.st0 e1))
        | true =>
          cases e2 : d_ 4 with
          | false => exact .inr (.inl ((F.st1 e1 e2)))
          | true =>
            have n_ : d_ 5 = false := by
              cases e_ : d_ 5 with
              | false => rfl
              | true => have h2 := (F.q5 e_).1; rw [show d_ 0 = false from hd_] at h2; cases h2
            exact .inr (.inr ((F.st2 e2 n_)))
      have kk := kl0.out x40 x41 w1 hst
      clear hst
      have HF : Hid (orMoreF av k cv pb lb ob f S0 S1 S2 S3 (upd d_ 0) (.func (.func 101) #[] #[.pointer (some ⟨pb, 0, none⟩), .pointer (some ⟨lb, 0, none⟩), .pointer (some ⟨ob, 0, none⟩)]) x38 x39 x40 x41 x42 w1) := ⟨F.q3, F.q4, fun h => ⟨rfl, (F.q5 h).2⟩, fun _ => rfl, F.f1, F.f2, F.st0, F.st1, F.st2, F.st3⟩
      clear F
      go_simp
      exact HK.out _ _ ⟨_, _, _, _, _, _, rfl, HF.out⟩
    · have HF : Hid (orMoreF av k cv pb lb ob f S0 S1 S2 S3 (upd d_ 1) x37 (.slice av k cv) x39 x40 x41 x42 w1) := ⟨F.q3, fun h => ⟨rfl, (F.q4 h).2⟩, F.q5, F.f0, fun _ => rfl, F.f2, F.st0, F.st1, F.st2, F.st3⟩
      clear F
      go_simp
      exact HK.out _ _ ⟨_, _, _, _, _, _, rfl, HF.out⟩
    · have HF : Hid (orMoreF av k cv pb lb ob f S0 S1 S2 S3 (upd d_ 2) x37 x38 (.int .i64 f) x40 x41 x42 w1) := ⟨fun h => rfl, F.q4, F.q5, F.f0, F.f1, fun _ => rfl, F.st0, F.st1, F.st2, F.st3⟩
      clear F
      go_simp
      exact HK.out _ _ ⟨_, _, _, _, _, _, rfl, HF.out⟩
    · have hS := F.st0  hd_
      obtain rfl := F.f2 (by simp [hdep])
      have hres := kc3.out w1 hS
      have HF : Hid (orMoreF av k cv pb lb ob f S0 S1 S2 S3 (upd d_ 3) x37 x38 (.int .i64 f) ((.slice (some ⟨w1.heap.size, 0, none⟩) 1 1)) x41 x42 (w1.alloc (.cells #[.int .i64 f] 3))) := ⟨fun _ => (show _ from (by simp [hdep] : d_ 2 = true)), fun h => ⟨(F.q4 h).1, rfl⟩, F.q5, F.f0, F.f1, F.f2, fun h => (by simp [upd] at h), fun _ _ => hres, fun h _ => (by have h2 : d_ 3 = true := (F.q4 h).2; rw [show d_ 3 = false from hd_] at h2; cases h2), fun h => (by have h2 : d_ 3 = true := (F.q4 (F.q5 h).2).2; rw [show d_ 3 = false from hd_] at h2; cases h2)⟩
      clear F hS hres
      go_simp
      exact HK.out _ _ ⟨_, _, _, _, _, _, rfl, HF.out⟩
    · have hS := F.st1 (by simp [hdep] : d_ 3 = true) hd_
      obtain rfl := F.f1 (by simp [hdep])
      obtain ⟨v_, w_, hr, hres⟩ := kc4.out x40 w1 hS
      rw [if_pos (by rfl)]
      refine wpIn_append_run (.tmp 38) (.tmp 40) 42 rfl _ _ _ _ rfl rfl hr ?_
      exact HK.out _ _ ⟨_, _, _, _, _, _, rfl, ⟨F.q3, fun _ => ⟨(show _ from (by simp [hdep] : d_ 1 = true)), (show _ from (by simp [hdep] : d_ 3 = true))⟩, fun h => ⟨(F.q5 h).1, rfl⟩, F.f0, F.f1, F.f2, fun h => (by have h2 : d_ 3 = false := h; rw [(by simp [hdep] : d_ 3 = true)] at h2; cases h2), fun _ h => (by simp [upd] at h), fun _ _ => hres, fun h => (by have h2 : d_ 4 = true := (F.q5 h).2; rw [show d_ 4 = false from hd_] at h2; cases h2)⟩⟩
    · have hS := F.st2 (by simp [hdep] : d_ 4 = true) hd_
      obtain rfl := F.f0 (by simp [hdep])
      have hc := kc5.out x40 x41 w1 hS
      have HF := Lib.hid F
      clear F
      go_simp
      refine ⟨trivial, rfl, wideAt_calls (hc.mono ?_)⟩
      rintro e w5 ⟨v_, rfl, hres⟩
      exact HK.out _ _ ⟨_, _, _, _, _, _, rfl, ⟨HF.out.q3, HF.out.q4, fun _ => ⟨(show _ from (by simp [hdep] : d_ 0 = true)), (show _ from (by simp [hdep] : d_ 4 = true))⟩, HF.out.f0, HF.out.f1, HF.out.f2, fun h => (by have h2 : d_ 3 = false := h; rw [(HF.out.q4 (by simp [hdep] : d_ 4 = true)).2] at h2; cases h2), fun _ h => (by have h2 : d_ 4 = false := h; rw [(by simp [hdep] : d_ 4 = true)] at h2; cases h2), fun _ h => (by simp [upd] at h), fun _ => hres⟩⟩
  · rintro d_ a_ w1 hall ⟨x37, x38, x39, x40, x41, x42, rfl, F⟩
    have hall' : ∀ k, k < 6 → d_ k = true := hall
    obtain rfl := F.f0 (hall' 0 (by decide))
    obtain rfl := F.f1 (hall' 1 (by decide))
    obtain rfl := F.f2 (hall' 2 (by decide))
    exact HQ.out x40 x41 x42 w1 (F.st3 (hall' 5 (by decide)))
end Go.Proofs.Ytnfhlbmapfoifaa

