/- Lists gathered by append, handed on and returned: what holds. The reference's ways: all ways, in memory of their own. -/
import Derived.Test.YtnfhlbmapfoifaaR10
namespace Go.Proofs.Ytnfhlbmapfoifaa
open Go.RowKit
set_option linter.unusedVariables false

/-- What has become of the lists so far (vo, in world A): v', in world A'. -/
structure WyPost (B : Nat) (l : List (List Int)) (A : World) (vo v' : Value) (A' : World) : Prop where
  rows : RowsAt A' B v' l
  grown : A.grownBy A' vo.ownBlock
  own : ∀ g, v'.ownBlock = some g → vo.ownBlock = some g ∨ A.heap.size ≤ g
theorem WyPost.refl {B : Nat} {l : List (List Int)} {A : World} {vo : Value} (h : RowsAt A B vo l) : WyPost B l A vo vo A :=
  ⟨h, ⟨rfl, rfl, rfl, Nat.le_refl _, fun _ _ _ => rfl⟩, fun g hg => .inl hg⟩
theorem WyPost.trans {B : Nat} {l l2 : List (List Int)} {A A1 A2 : World} {vo v1 v2 : Value} (h1 : WyPost B l A vo v1 A1) (h2 : WyPost B l2 A1 v1 v2 A2) : WyPost B l2 A vo v2 A2 :=
  ⟨h2.rows, ⟨h2.grown.os.trans h1.grown.os, h2.grown.tape.trans h1.grown.tape, h2.grown.output.trans h1.grown.output, Nat.le_trans h1.grown.size h2.grown.size, fun k hk hne =>
    (h2.grown.block k (Nat.lt_of_lt_of_le hk h1.grown.size) (fun e => by
      rcases h1.own k e.symm with h | h
      · exact hne h.symm
      · omega)).trans (h1.grown.block k hk hne)⟩, fun g hg => by
    rcases h2.own g hg with h | h
    · exact h1.own g h
    · exact .inr (Nat.le_trans h1.grown.size h)⟩
theorem WyPost.after {B : Nat} {l : List (List Int)} {A V A' : World} {vo v' : Value} (hb : Below A.heap.size A V) (h : WyPost B l V vo v' A') : WyPost B l A vo v' A' :=
  ⟨h.rows, ⟨h.grown.os.trans hb.os, h.grown.tape.trans hb.tape, h.grown.output.trans hb.output, Nat.le_trans hb.size h.grown.size, fun k hk hne => (h.grown.block k (Nat.lt_of_lt_of_le hk hb.size) hne).trans (hb.block k hk)⟩, fun g hg => by
    rcases h.own g hg with h' | h'
    · exact .inl h'
    · exact .inr (Nat.le_trans hb.size h')⟩
theorem WyPost.then {B : Nat} {l : List (List Int)} {A A1 A2 : World} {vo v1 : Value} (h : WyPost B l A vo v1 A1) (hb : Below A1.heap.size A1 A2) : WyPost B l A vo v1 A2 :=
  ⟨h.rows.below hb, ⟨hb.os.trans h.grown.os, hb.tape.trans h.grown.tape, hb.output.trans h.grown.output, Nat.le_trans h.grown.size hb.size, fun k hk hne => (hb.block k (Nat.lt_of_lt_of_le hk h.grown.size)).trans (h.grown.block k hk hne)⟩, h.own⟩
theorem RowsAt.lt {w : World} {B : Nat} {v : Value} {l : List (List Int)} (h : RowsAt w B v l) {g : Nat} (hg : v.ownBlock = some g) : B ≤ g ∧ g < w.heap.size := by
  obtain ⟨vs, h1, _⟩ := h
  exact h1.lt g hg
/-- What lies below B stays. -/
theorem WyPost.below {B : Nat} {l l0 : List (List Int)} {A A' : World} {vo v' : Value} (h : WyPost B l A vo v' A') (hr : RowsAt A B vo l0) (hB : B ≤ A.heap.size) : Below B A A' :=
  (Below.refl B A).grown h.grown hB (fun k hk => (hr.lt hk).1)
/-- Numbers that lie in memory of their own stay. -/
theorem WyPost.ints {B B' : Nat} {l l0 : List (List Int)} {A A' : World} {vo v' : Value} {n : Nat} {vp : Value} {xs : List Value} (h : WyPost B l A vo v' A') (hr : RowsAt A B vo l0) (hp : A.ownsRow B' 3 1 vp n xs) : A'.ownsRow B' 3 1 vp n xs := by
  obtain ⟨vs, h1, _⟩ := hr
  refine own_blocks hp (fun g hg => h.grown.block g (hp.lt g hg).2 (fun e => own_apart hp h1 (by decide) g hg e.symm))
theorem ints_news {w : World} {a : Option Addr} {l : List Int} (h : IsInts w a l) : l.length ≠ 0 → ∃ ad, a = some ad ∧ ∀ j u, (l.map (Value.int .i64))[j]? = some u → w.cell? (ad.add j) = some u := fun h0 => by
  obtain ⟨b, off, e, hc⟩ := h.at (k := 0) (by omega)
  refine ⟨⟨b, off, none⟩, e, fun j u hj => ?_⟩
  have hj' : j < l.length := by have := (List.getElem?_eq_some_iff.1 hj).1; simpa using this
  have e2 : ((⟨b, off, none⟩ : Addr).add j) = ⟨b, off + j, none⟩ := by unfold Addr.add; split <;> simp_all
  rw [e2, hc j hj']
  simp [hj'] at hj
  rw [← hj]
  simp [gi, hj']
/-- One list more. -/
theorem rows_add {A V : World} {B : Nat} {vo vp : Value} {acc : List (List Int)} {pre : List Int} (hR : RowsAt A B vo acc) (hb : Below A.heap.size A V) (hvp : A.ownsRow B 3 1 vp pre.length (pre.map (Value.int .i64))) (hB : B ≤ A.heap.size) (hi : acc.length ≤ 1000000) :
    ∃ v' w', (Builtin.append_ #[32, 32] 32 #[vo, .slice (some ⟨V.heap.size, 0, none⟩) 1 1]).run Try.prog (V.alloc (.cells #[vp] 42)) = .ok v' w' ∧ WyPost B (acc ++ [pre]) A vo v' w' := by
  obtain ⟨i0, hi0, hz0, hz1, hz2⟩ := info_parts infoO
  obtain ⟨vs, h4, h5⟩ := hR.below hb
  have hvc := own_below hvp hb
  have hone : vp.oneCell' = true := by
    rcases hvc.2 with ⟨rfl, _⟩ | ⟨g, cap, cur, rfl, _⟩ <;> rfl
  have hV1 := World.alloc_heap_new V (.cells #[vp] 42)
  have hAV := hb.size
  obtain ⟨v', w', hr, hn, hg, hor, _⟩ := append_keep (P := Try.prog) (w := V.alloc (.cells #[vp] 42)) B 32 32 42 i0 _ 24 Try.underlying32 hi0 hz0 hz1 hz2 rfl vo acc.length vs (own_blocks h4 (fun g hg => Below.heap_alloc _ _ _ (h4.lt g hg).2)) ⟨V.heap.size, 0, none⟩ vp (by rw [cell_of_heap hV1]; rfl) hone (by simp [maxLen]; omega) (by omega) (by simp; omega)
  have hVw : V.heap.size < w'.heap.size := by have := hg.size; simp at this; omega
  have hk1 : ∀ k, k < V.heap.size → vo.ownBlock ≠ some k → w'.heap[k]? = V.heap[k]? := fun k hk hne => (hg.block k (by simp; omega) (fun e => hne e.symm)).trans (Below.heap_alloc _ _ _ hk)
  refine ⟨v', w', hr, ⟨⟨vs ++ [vp], by rw [List.length_append]; exact hn, by simp [h5.1], fun j y hy => ?_⟩, ⟨hg.os.trans hb.os, hg.tape.trans hb.tape, hg.output.trans hb.output, by omega, fun k hk hne => (hk1 k (by omega) (fun e => hne e.symm)).trans (hb.block k hk)⟩, fun g hg' => ?_⟩⟩
  · rcases Nat.lt_trichotomy j vs.length with hj | hj | hj
    · rw [List.getElem?_append_left (by rw [← h5.1]; exact hj)] at hy
      obtain ⟨c', hc1, hc2⟩ := h5.2 j y hy
      exact ⟨c', by rw [List.getElem?_append_left hj]; exact hc1, own_blocks hc2 (fun g hg' => hk1 g (hc2.lt g hg').2 (own_apart hc2 h4 (by decide) g hg'))⟩
    · have hj2 : j = acc.length := by rw [← h5.1]; exact hj
      rw [hj2, List.getElem?_append_right (Nat.le_refl _)] at hy
      simp at hy
      subst hy
      refine ⟨vp, by rw [hj]; simp, own_blocks hvc (fun g hg' => hk1 g (hvc.lt g hg').2 (own_apart hvc h4 (by decide) g hg'))⟩
    · rw [List.getElem?_eq_none (by simp [← h5.1]; omega)] at hy
      cases hy
  · rcases hor with e | e
    · rw [e] at hg'; exact .inl hg'
    · rw [e] at hg'
      cases hg'
      exact .inr (by simp; omega)
/-- A fresh copy. -/
theorem copy_new {W w : World} {av : Option Addr} {pre : List Int} {cv : Nat} {xs : Value} (hk : pre.length ≤ 16) (hb : Below W.heap.size W w) (hx : w.ownsRow W.heap.size 3 1 xs 0 []) (hi : IsInts w av pre) :
    ∃ (r1 : Option Addr × Nat) (w' : World), (Builtin.append_ #[42, 42] 42 #[xs, .slice av pre.length cv]).run Try.prog w = .ok (.slice r1.1 pre.length r1.2) w' ∧ Below W.heap.size W w' ∧ w'.ownsRow W.heap.size 3 1 (.slice r1.1 pre.length r1.2) pre.length (pre.map (Value.int .i64)) ∧
      (∀ k, k < w.heap.size → xs.ownBlock ≠ some k → w'.heap[k]? = w.heap[k]? ∧ (Value.slice r1.1 pre.length r1.2).ownBlock ≠ some k) := by
  obtain ⟨i0, hi0, hz0, hz1, hz2⟩ := info_parts infoI
  obtain ⟨v', w', hr, hn, hg, hor⟩ := append_rows_at (P := Try.prog) (w := w) W.heap.size 42 42 3 i0 _ 1 8 Try.underlying42 hi0 hz0 hz1 hz2 rfl (by decide) xs 0 [] hx av pre.length cv (pre.map (Value.int .i64)) (by simp) (ints_news hi) (by intro u hu; simp at hu; obtain ⟨x, _, rfl⟩ := hu; rfl) (by simp [maxLen]; omega) (by omega) hb.size
  rw [Nat.zero_add, List.nil_append] at hn
  obtain ⟨a', c', rfl, _⟩ := own_slice hn
  refine ⟨(a', c'), w', hr, hb.grown hg hb.size (fun k hk => (hx.lt k hk).1), hn, fun k hk hne => ⟨hg.block k hk (fun e => hne e.symm), fun e => ?_⟩⟩
  rcases hor with h | h
  · rw [h] at e; exact hne e
  · rw [h] at e; cases e; omega
/-- And one number more. -/
theorem copy_more {W w : World} {pre : List Int} {f : Int} {r1 : Option Addr × Nat} {ms : Nat} (hk : pre.length ≤ 16) (hb : Below W.heap.size W w) (hx : w.ownsRow W.heap.size 3 1 (.slice r1.1 pre.length r1.2) pre.length (pre.map (Value.int .i64))) (hm : w.heap[ms]? = some (.cells #[.int .i64 f] 3 (0, 0))) :
    ∃ (r2 : Option Addr × Nat) (w' : World), (Builtin.append_ #[42, 42] 42 #[.slice r1.1 pre.length r1.2, .slice (some ⟨ms, 0, none⟩) 1 1]).run Try.prog w = .ok (.slice r2.1 (pre.length + 1) r2.2) w' ∧ Below W.heap.size W w' ∧ w'.ownsRow W.heap.size 3 1 (.slice r2.1 (pre.length + 1) r2.2) (pre ++ [f]).length ((pre ++ [f]).map (Value.int .i64)) := by
  obtain ⟨i0, hi0, hz0, hz1, hz2⟩ := info_parts infoI
  obtain ⟨v', w', hr, hn, hg, _⟩ := append_keep (P := Try.prog) (w := w) W.heap.size 42 42 3 i0 _ 8 Try.underlying42 hi0 hz0 hz1 hz2 rfl _ _ _ hx ⟨ms, 0, none⟩ (.int .i64 f) (by rw [cell_of_heap hm]; rfl) rfl (by simp [maxLen]; omega) (by omega) hb.size
  obtain ⟨a', c', rfl, _⟩ := own_slice hn
  refine ⟨(a', c'), w', hr, hb.grown hg hb.size (fun k hk => (hx.lt k hk).1), ?_⟩
  have e : (pre ++ [f]).length = pre.length + 1 := by simp
  have e2 : (pre ++ [f]).map (Value.int .i64) = pre.map (Value.int .i64) ++ [.int .i64 f] := by simp
  rw [e, e2]
  exact hn
end Go.Proofs.Ytnfhlbmapfoifaa

namespace Go.Proofs.Ytnfhlbmapfoifaa
open Go.RowKit
set_option linter.unusedVariables false

def accW (p : Prs) (d : Nat) (pre : List Int) (acc : List (List Int)) (j : Nat) : List (List Int) := acc ++ ((froms p.cards.length).take j).flatMap (onF p d pre)
theorem accW_zero (p : Prs) (d : Nat) (pre : List Int) (acc : List (List Int)) : accW p d pre acc 0 = acc := by simp [accW]
theorem accW_succ (p : Prs) (d : Nat) (pre : List Int) (acc : List (List Int)) {j : Nat} (h : j < p.cards.length + 1) : accW p d pre acc (j + 1) = accW p d pre acc j ++ onF p d pre ((j : Int) - 1) := by
  unfold accW
  rw [List.take_succ_eq_append_getElem (by rw [froms_len]; exact h), froms_get h, List.flatMap_append, List.append_assoc]
  simp
theorem accW_all (p : Prs) (d : Nat) (pre : List Int) (acc : List (List Int)) : accW p d pre acc (p.cards.length + 1) = acc ++ onW p (d + 1) pre := by
  unfold accW
  rw [List.take_of_length_le (by rw [froms_len]; exact Nat.le_refl _), onW_succ]
theorem accW_le (p : Prs) (d : Nat) (pre : List Int) (acc : List (List Int)) {j : Nat} (h : j < p.cards.length + 1) : (accW p d pre acc j).length + (onF p d pre ((j : Int) - 1)).length ≤ acc.length + (onW p (d + 1) pre).length := by
  have h1 := cntF_succ p d pre h
  have h2 := cntF_all p d pre
  have h3 : ∀ m, j + 1 + m ≤ p.cards.length + 1 → cntF p d pre (j + 1) ≤ cntF p d pre (j + 1 + m) := by
    intro m
    induction m with
    | zero => intro _; exact Nat.le_refl _
    | succ m ih =>
      intro hm
      have := cntF_succ p d pre (j := j + 1 + m) (by omega)
      have := ih (by omega)
      rw [show j + 1 + (m + 1) = (j + 1 + m) + 1 by omega]
      omega
  have h4 := h3 (p.cards.length - j) (by omega)
  rw [show j + 1 + (p.cards.length - j) = p.cards.length + 1 by omega] at h4
  have h5 : (accW p d pre acc j).length = acc.length + cntF p d pre j := by unfold accW cntF; rw [List.length_append]
  omega
theorem ownsRow_zero {w : World} {B : Nat} (h : B ≤ w.heap.size) : (w.alloc (.cells #[] 3)).ownsRow B 3 1 (.slice (some ⟨w.heap.size, 0, none⟩) 0 0) 0 [] := World.ownsRow_made (e := 3) (size := 1) w #[] 0 (base := B) h (by simp [maxLen]) (by simp)
set_option maxRecDepth 100000 in
set_option maxHeartbeats 4000000 in
theorem ways_leaf {W0 : World} {p : Prs} {a : Option Addr} {cap : Nat} (hP : IsPrts W0 a p.cards) (hv : p.valid = true) {pre : List Int} {acc : List (List Int)} {A : World} {vp vo : Value} (hl : pre.length = p.cards.length) (hr : ∀ x ∈ pre, -1 ≤ x ∧ x < p.cards.length)
    (hacc : acc.length ≤ 1000000) (hA : Below W0.heap.size W0 A) (hR : RowsAt A W0.heap.size vo acc) (hown : A.ownsRow W0.heap.size 3 1 vp pre.length (pre.map (Value.int .i64))) :
    Calls Try.prog 100 #[p.v a cap, vp, vo] A fun e A' => ∃ v', e = .returned v' ∧ WyPost W0.heap.size (acc ++ onW p 0 pre) A vo v' A' := by
  have hn5 := (valid_parts hv).1
  have hb0 : Below A.heap.size A (A.alloc (.cells (p.cells a cap) 26)) := (Below.refl _ A).alloc (Nat.le_refl _) _
  have q0 := World.alloc_heap_new A (.cells (p.cells a cap) 26)
  obtain ⟨av, cv, rfl, _⟩ := own_slice hown
  obtain ⟨vs0, hvs0, _⟩ := id hR
  obtain ⟨ao, co, rfl, _⟩ := own_slice hvs0
  have hw1 := way_ref (cap := cap) (cw := cv) hv (⟨hl, hr⟩ : GoodW p.cards.length pre) (hP.mono (hA.trans (hb0.mono hA.size))) ((own_ints hown).mono hb0)
  have HW1 := Lib.hid hw1
  have HH := Lib.hid (And.intro hb0 (And.intro hA (And.intro hR (And.intro hown hacc))))
  have hkn : ((pre.length : Int) == (p.cards.length : Int)) = true := by rw [hl]; simp
  have h5 : pre.length ≤ 5 := by omega
  have HE : Hid (onW p 0 pre = if isWayB p pre then [pre] else []) := onW_zero p pre
  clear hb0 q0 hA hR hown hw1 hl hr hP hvs0
  go_enter Try.func100, Try.ntmps100
  go_wp2_with fail
  refine HW1.out.mono ?_
  rintro e V ⟨rfl, hbV⟩
  have HV := Lib.hid (HH.out.1.trans (hbV.mono HH.out.1.size))
  clear hbV
  cases hw : isWayB p pre
  · have HW := Lib.hid hw
    clear hw
    go_wp2_with fail
    go_ret
    rw [HE.out, HW.out]
    exact ⟨_, rfl, by simpa using (WyPost.refl HH.out.2.2.1).then HV.out⟩
  · have HW := Lib.hid hw
    clear hw
    obtain ⟨v', w', hrun, hpost⟩ := rows_add HH.out.2.2.1 HV.out HH.out.2.2.2.1 HH.out.2.1.size HH.out.2.2.2.2
    have HR := Lib.hid hrun
    have HQ := Lib.hid hpost
    clear hrun hpost
    go_wp2_with (at_builtin; refine wpList_append_run rfl (.tmp 17) (.tmp 19) 32 rfl _ _ _ _ rfl rfl HR.out ?_)
    go_ret
    rw [HE.out, HW.out]
    exact ⟨_, rfl, HQ.out⟩
end Go.Proofs.Ytnfhlbmapfoifaa

