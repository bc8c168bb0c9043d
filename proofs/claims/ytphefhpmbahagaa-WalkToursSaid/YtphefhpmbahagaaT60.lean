/- Lists gathered by append, handed on and returned; the drawn region of the reference's orders. The reference's orders: all orders, those of a part of the views too, in memory of their own. The reference's orders; those of all views. The reference: all tours. The reference: Tours. The reference: Before. The reference: Shortest. The reference: Most. -/
import Derived.Test.YtphefhpmbahagaaT31
import Derived.Test.YtphefhpmbahagaaT36
import Derived.Test.YtphefhpmbahagaaT37
namespace Go.Proofs.Ytphefhpmbahagaa
open Go.RowKit
set_option linter.unusedVariables false
set_option linter.unusedSimpArgs false

/-- Slices that each own a list. -/
def RowsOf (w : World) (B : Nat) (vs : List Value) (l : List (List Int)) : Prop := vs.length = l.length ∧ ∀ (i : Nat) (x : List Int), l[i]? = some x → ∃ vc, vs[i]? = some vc ∧ w.ownsRow B 3 1 vc x.length (x.map (Value.int .i64))
theorem RowsOf.blocks {w w' : World} {B : Nat} {vs : List Value} {l : List (List Int)} (h : RowsOf w B vs l) (hk : ∀ vc ∈ vs, ∀ g, vc.ownBlock = some g → w'.heap[g]? = w.heap[g]?) : RowsOf w' B vs l :=
  ⟨h.1, fun i x hx => by
    obtain ⟨vc, h1, h2⟩ := h.2 i x hx
    exact ⟨vc, h1, own_blocks h2 (hk vc (List.mem_of_getElem? h1))⟩⟩
theorem rows_lt {w : World} {B : Nat} {vs : List Value} {l : List (List Int)} (h : RowsOf w B vs l) {vc : Value} (hv : vc ∈ vs) {g : Nat} (hg : vc.ownBlock = some g) : B ≤ g ∧ g < w.heap.size := by
  obtain ⟨i, hi, rfl⟩ := List.getElem_of_mem hv
  have hi' : i < l.length := by rw [← h.1]; exact hi
  obtain ⟨vc', h1, h2⟩ := h.2 i _ (List.getElem?_eq_getElem hi')
  rw [List.getElem?_eq_getElem hi] at h1
  cases h1
  exact h2.lt g hg
/-- Lists that lie in memory of their own. -/
def RowsAt (w : World) (B : Nat) (v : Value) (l : List (List Int)) : Prop := ∃ vs, w.ownsRow B 26 1 v l.length vs ∧ RowsOf w B vs l
theorem RowsAt.below {w w' : World} {B : Nat} {v : Value} {l : List (List Int)} (h : RowsAt w B v l) (hb : Below w.heap.size w w') : RowsAt w' B v l := by
  obtain ⟨vs, h1, h2⟩ := h
  exact ⟨vs, own_below h1 hb, h2.blocks (fun vc hvc g hg => hb.block _ (rows_lt h2 hvc hg).2)⟩
theorem RowsAt.base {w : World} {B B' : Nat} {v : Value} {l : List (List Int)} (h : RowsAt w B v l) (hB : B' ≤ B) : RowsAt w B' v l := by
  obtain ⟨vs, h1, h2⟩ := h
  exact ⟨vs, own_base h1 hB, h2.1, fun i x hx => by
    obtain ⟨vc, e1, e2⟩ := h2.2 i x hx
    exact ⟨vc, e1, own_base e2 hB⟩⟩
theorem RowsAt.blocks {w w' : World} {B : Nat} {v : Value} {l : List (List Int)} (h : RowsAt w B v l) (hb : ∀ k, B ≤ k → w'.heap[k]? = w.heap[k]?) : RowsAt w' B v l := by
  obtain ⟨vs, h1, h2⟩ := h
  exact ⟨vs, own_blocks h1 (fun g hg => hb g (h1.lt g hg).1), h2.blocks (fun vc hvc g hg => hb g (rows_lt h2 hvc hg).1)⟩
/-- A slice of lists that can be read. -/
def IsLists (w : World) (a : Option Addr) (l : List (List Int)) : Prop :=
  ∀ i, i < l.length → ∃ b off, a = some ⟨b, off, none⟩ ∧ ∃ ax cx, w.cell? ⟨b, off + i, none⟩ = some (.slice ax (l.getD i []).length cx) ∧ IsInts w ax (l.getD i [])
theorem IsLists.mono {w w' : World} {a : Option Addr} {l : List (List Int)} (h : IsLists w a l) (hb : Below w.heap.size w w') : IsLists w' a l := fun i hi => by
  obtain ⟨b, off, h1, ax, cx, h2, h3⟩ := h i hi
  exact ⟨b, off, h1, ax, cx, cell_stays hb h2, h3.mono hb⟩
theorem RowsAt.lists {w : World} {B : Nat} {v : Value} {l : List (List Int)} (h : RowsAt w B v l) : ∃ a c, v = .slice a l.length c ∧ IsLists w a l := by
  obtain ⟨vs, h1, h2⟩ := h
  obtain ⟨a, c, rfl, _⟩ := own_slice h1
  refine ⟨a, c, rfl, fun i hi => ?_⟩
  obtain ⟨g, cp, e, _, _, _, _, hc⟩ := own_cell h1 (by omega)
  cases e
  have hk' : l[i]? = some (l.getD i []) := by simp [hi]
  obtain ⟨vc, k1, k2⟩ := h2.2 i _ hk'
  obtain ⟨ax, cx, rfl, _⟩ := own_slice k2
  exact ⟨g, 0, rfl, ax, cx, by rw [Nat.zero_add]; exact hc i _ k1, own_ints k2⟩
theorem infoO : (Try.prog.info? 26).map (fun i => (i.zero, i.size, i.bytes)) = some (some (.slice none 0 0), 1, 24) := by kernel_rfl
/-- What has become of the lists so far (vo, in world A): v', in world A'. -/
structure WyPost (B : Nat) (l : List (List Int)) (A : World) (vo v' : Value) (A' : World) : Prop where
  rows : RowsAt A' B v' l
  grown : A.grownBy A' vo.ownBlock
  own : ∀ g, v'.ownBlock = some g → vo.ownBlock = some g ∨ A.heap.size ≤ g
theorem WyPost.refl {B : Nat} {l : List (List Int)} {A : World} {vo : Value} (h : RowsAt A B vo l) : WyPost B l A vo vo A :=
  ⟨h, ⟨rfl, rfl, rfl, Nat.le_refl _, fun _ _ _ => rfl⟩, fun g hg => .inl hg⟩
theorem WyPost.trans {B : Nat} {l l2 : List (List Int)} {A A1 A2 : World} {vo v1 v2 : Value} (h1 : WyPost B l A vo v1 A1) (h2 : WyPost B l2 A1 v1 v2 A2) : WyPost B l2 A vo v2 A2 :=
  ⟨h2.rows, ⟨h2.grown.os.trans h1.grown.os, h2.grown.tape.trans h1.grown.tape, h2.grown.output.trans h1.grown.output, Nat.le_trans h1.grown.size h2.grown.size, fun k hk hne =>
    (h2.grown.block k (Nat.lt_of_lt_of_le hk h1.grown.size) (fun e => by
      rcases h1.own k e.symm with h | h
      · exact hne h.symm
      · omega)).trans (h1.grown.block k hk hne)⟩, fun g hg => by
    rcases h2.own g hg with h | h
    · exact h1.own g h
    · exact .inr (Nat.le_trans h1.grown.size h)⟩
theorem WyPost.after {B : Nat} {l : List (List Int)} {A V A' : World} {vo v' : Value} (hb : Below A.heap.size A V) (h : WyPost B l V vo v' A') : WyPost B l A vo v' A' :=
  ⟨h.rows, ⟨h.grown.os.trans hb.os, h.grown.tape.trans hb.tape, h.grown.output.trans hb.output, Nat.le_trans hb.size h.grown.size, fun k hk hne => (h.grown.block k (Nat.lt_of_lt_of_le hk hb.size) hne).trans (hb.block k hk)⟩, fun g hg => by
    rcases h.own g hg with h' | h'
    · exact .inl h'
    · exact .inr (Nat.le_trans hb.size h')⟩
theorem WyPost.then {B : Nat} {l : List (List Int)} {A A1 A2 : World} {vo v1 : Value} (h : WyPost B l A vo v1 A1) (hb : Below A1.heap.size A1 A2) : WyPost B l A vo v1 A2 :=
  ⟨h.rows.below hb, ⟨hb.os.trans h.grown.os, hb.tape.trans h.grown.tape, hb.output.trans h.grown.output, Nat.le_trans h.grown.size hb.size, fun k hk hne => (hb.block k (Nat.lt_of_lt_of_le hk h.grown.size)).trans (h.grown.block k hk hne)⟩, h.own⟩
theorem RowsAt.lt {w : World} {B : Nat} {v : Value} {l : List (List Int)} (h : RowsAt w B v l) {g : Nat} (hg : v.ownBlock = some g) : B ≤ g ∧ g < w.heap.size := by
  obtain ⟨vs, h1, _⟩ := h
  exact h1.lt g hg
/-- What lies below B stays. -/
theorem WyPost.below {B : Nat} {l l0 : List (List Int)} {A A' : World} {vo v' : Value} (h : WyPost B l A vo v' A') (hr : RowsAt A B vo l0) (hB : B ≤ A.heap.size) : Below B A A' :=
  (Below.refl B A).grown h.grown hB (fun k hk => (hr.lt hk).1)
/-- Numbers that lie in memory of their own stay. -/
theorem WyPost.ints {B B' : Nat} {l l0 : List (List Int)} {A A' : World} {vo v' : Value} {n : Nat} {vp : Value} {xs : List Value} (h : WyPost B l A vo v' A') (hr : RowsAt A B vo l0) (hp : A.ownsRow B' 3 1 vp n xs) : A'.ownsRow B' 3 1 vp n xs := by
  obtain ⟨vs, h1, _⟩ := hr
  refine own_blocks hp (fun g hg => h.grown.block g (hp.lt g hg).2 (fun e => own_apart hp h1 (by decide) g hg e.symm))
theorem ints_news {w : World} {a : Option Addr} {l : List Int} (h : IsInts w a l) : l.length ≠ 0 → ∃ ad, a = some ad ∧ ∀ j u, (l.map (Value.int .i64))[j]? = some u → w.cell? (ad.add j) = some u := fun h0 => by
  obtain ⟨b, off, e, hc⟩ := h.at (k := 0) (by omega)
  refine ⟨⟨b, off, none⟩, e, fun j u hj => ?_⟩
  have hj' : j < l.length := by have := (List.getElem?_eq_some_iff.1 hj).1; simpa using this
  have e2 : ((⟨b, off, none⟩ : Addr).add j) = ⟨b, off + j, none⟩ := by unfold Addr.add; split <;> simp_all
  rw [e2, hc j hj']
  simp [hj'] at hj
  rw [← hj]
  simp [gi, hj']
/-- One list more. -/
theorem rows_add {A V : World} {B : Nat} {vo vp : Value} {acc : List (List Int)} {pre : List Int} (hR : RowsAt A B vo acc) (hb : Below A.heap.size A V) (hvp : A.ownsRow B 3 1 vp pre.length (pre.map (Value.int .i64))) (hB : B ≤ A.heap.size) (hi : acc.length ≤ 1000000) :
    ∃ v' w', (Builtin.append_ #[95, 95] 95 #[vo, .slice (some ⟨V.heap.size, 0, none⟩) 1 1]).run Try.prog (V.alloc (.cells #[vp] 26)) = .ok v' w' ∧ WyPost B (acc ++ [pre]) A vo v' w' := by
  obtain ⟨i0, hi0, hz0, hz1, hz2⟩ := info_parts infoO
  obtain ⟨vs, h4, h5⟩ := hR.below hb
  have hvc := own_below hvp hb
  have hone : vp.oneCell' = true := by
    rcases hvc.2 with ⟨rfl, _⟩ | ⟨g, cap, cur, rfl, _⟩ <;> rfl
  have hV1 := World.alloc_heap_new V (.cells #[vp] 26)
  have hAV := hb.size
  obtain ⟨v', w', hr, hn, hg, hor, _⟩ := append_keep (P := Try.prog) (w := V.alloc (.cells #[vp] 26)) B 95 95 26 i0 _ 24 Try.underlying95 hi0 hz0 hz1 hz2 rfl vo acc.length vs (own_blocks h4 (fun g hg => Below.heap_alloc _ _ _ (h4.lt g hg).2)) ⟨V.heap.size, 0, none⟩ vp (by rw [cell_of_heap hV1]; rfl) hone (by simp [maxLen]; omega) (by omega) (by simp; omega)
  have hVw : V.heap.size < w'.heap.size := by have := hg.size; simp at this; omega
  have hk1 : ∀ k, k < V.heap.size → vo.ownBlock ≠ some k → w'.heap[k]? = V.heap[k]? := fun k hk hne => (hg.block k (by simp; omega) (fun e => hne e.symm)).trans (Below.heap_alloc _ _ _ hk)
  refine ⟨v', w', hr, ⟨⟨vs ++ [vp], by rw [List.length_append]; exact hn, by simp [h5.1], fun j y hy => ?_⟩, ⟨hg.os.trans hb.os, hg.tape.trans hb.tape, hg.output.trans hb.output, by omega, fun k hk hne => (hk1 k (by omega) (fun e => hne e.symm)).trans (hb.block k hk)⟩, fun g hg' => ?_⟩⟩
  · rcases Nat.lt_trichotomy j vs.length with hj | hj | hj
    · rw [List.getElem?_append_left (by rw [← h5.1]; exact hj)] at hy
      obtain ⟨c', hc1, hc2⟩ := h5.2 j y hy
      exact ⟨c', by rw [List.getElem?_append_left hj]; exact hc1, own_blocks hc2 (fun g hg' => hk1 g (hc2.lt g hg').2 (own_apart hc2 h4 (by decide) g hg'))⟩
    · have hj2 : j = acc.length := by rw [← h5.1]; exact hj
      rw [hj2, List.getElem?_append_right (Nat.le_refl _)] at hy
      simp at hy
      subst hy
      refine ⟨vp, by rw [hj]; simp, own_blocks hvc (fun g hg' => hk1 g (hvc.lt g hg').2 (own_apart hvc h4 (by decide) g hg'))⟩
    · rw [List.getElem?_eq_none (by simp [← h5.1]; omega)] at hy
      cases hy
  · rcases hor with e | e
    · rw [e] at hg'; exact .inl hg'
    · rw [e] at hg'
      cases hg'
      exact .inr (by simp; omega)
/-- A fresh copy. -/
theorem copy_new {W w : World} {av : Option Addr} {pre : List Int} {cv : Nat} {xs : Value} (hk : pre.length ≤ 16) (hb : Below W.heap.size W w) (hx : w.ownsRow W.heap.size 3 1 xs 0 []) (hi : IsInts w av pre) :
    ∃ (r1 : Option Addr × Nat) (w' : World), (Builtin.append_ #[26, 26] 26 #[xs, .slice av pre.length cv]).run Try.prog w = .ok (.slice r1.1 pre.length r1.2) w' ∧ Below W.heap.size W w' ∧ w'.ownsRow W.heap.size 3 1 (.slice r1.1 pre.length r1.2) pre.length (pre.map (Value.int .i64)) ∧
      (∀ k, k < w.heap.size → xs.ownBlock ≠ some k → w'.heap[k]? = w.heap[k]? ∧ (Value.slice r1.1 pre.length r1.2).ownBlock ≠ some k) := by
  obtain ⟨i0, hi0, hz0, hz1, hz2⟩ := info_parts infoI
  obtain ⟨v', w', hr, hn, hg, hor⟩ := append_rows_at (P := Try.prog) (w := w) W.heap.size 26 26 3 i0 _ 1 8 Try.underlying26 hi0 hz0 hz1 hz2 rfl (by decide) xs 0 [] hx av pre.length cv (pre.map (Value.int .i64)) (by simp) (ints_news hi) (by intro u hu; simp at hu; obtain ⟨x, _, rfl⟩ := hu; rfl) (by simp [maxLen]; omega) (by omega) hb.size
  rw [Nat.zero_add, List.nil_append] at hn
  obtain ⟨a', c', rfl, _⟩ := own_slice hn
  refine ⟨(a', c'), w', hr, hb.grown hg hb.size (fun k hk => (hx.lt k hk).1), hn, fun k hk hne => ⟨hg.block k hk (fun e => hne e.symm), fun e => ?_⟩⟩
  rcases hor with h | h
  · rw [h] at e; exact hne e
  · rw [h] at e; cases e; omega
/-- And one number more. -/
theorem copy_more {W w : World} {pre : List Int} {f : Int} {r1 : Option Addr × Nat} {ms : Nat} (hk : pre.length ≤ 16) (hb : Below W.heap.size W w) (hx : w.ownsRow W.heap.size 3 1 (.slice r1.1 pre.length r1.2) pre.length (pre.map (Value.int .i64))) (hm : w.heap[ms]? = some (.cells #[.int .i64 f] 3 (0, 0))) :
    ∃ (r2 : Option Addr × Nat) (w' : World), (Builtin.append_ #[26, 26] 26 #[.slice r1.1 pre.length r1.2, .slice (some ⟨ms, 0, none⟩) 1 1]).run Try.prog w = .ok (.slice r2.1 (pre.length + 1) r2.2) w' ∧ Below W.heap.size W w' ∧ w'.ownsRow W.heap.size 3 1 (.slice r2.1 (pre.length + 1) r2.2) (pre ++ [f]).length ((pre ++ [f]).map (Value.int .i64)) := by
  obtain ⟨i0, hi0, hz0, hz1, hz2⟩ := info_parts infoI
  obtain ⟨v', w', hr, hn, hg, _⟩ := append_keep (P := Try.prog) (w := w) W.heap.size 26 26 3 i0 _ 8 Try.underlying26 hi0 hz0 hz1 hz2 rfl _ _ _ hx ⟨ms, 0, none⟩ (.int .i64 f) (by rw [cell_of_heap hm]; rfl) rfl (by simp [maxLen]; omega) (by omega) hb.size
  obtain ⟨a', c', rfl, _⟩ := own_slice hn
  refine ⟨(a', c'), w', hr, hb.grown hg hb.size (fun k hk => (hx.lt k hk).1), ?_⟩
  have e : (pre ++ [f]).length = pre.length + 1 := by simp
  have e2 : (pre ++ [f]).map (Value.int .i64) = pre.map (Value.int .i64) ++ [.int .i64 f] := by simp
  rw [e, e2]
  exact hn
theorem ownsRow_zero {w : World} {B : Nat} (h : B ≤ w.heap.size) : (w.alloc (.cells #[] 3)).ownsRow B 3 1 (.slice (some ⟨w.heap.size, 0, none⟩) 0 0) 0 [] := World.ownsRow_made (e := 3) (size := 1) w #[] 0 (base := B) h (by simp [maxLen]) (by simp)
theorem rows_nil {w : World} : RowsAt w w.heap.size (.slice none 0 0) [] := ⟨[], World.ownsRow_nil w _ _ _, rfl, fun i x h => by simp at h⟩
theorem rows_int {w : World} {B : Nat} {v : Value} {l : List (List Int)} (h : RowsAt w B v l) : ∃ a c, v = .slice a l.length c := by
  obtain ⟨vs, h1, _⟩ := h
  obtain ⟨a, c, e, _⟩ := own_slice h1
  exact ⟨a, c, e⟩
structure wor6F (t : Tr) (A : TrA) (bx : Nat) (av : Option Addr) (k : Nat) (cv : Nat) (vo : Value) (f : Int) (S0 : Bool → Nat → World → Prop) (S1 : Bool → Nat → Value → World → Prop) (S2 : Bool → Nat → Value → Option Addr × Nat → World → Prop) (S3 : Bool → Nat → Value → Option Addr × Nat → Option Addr × Nat → World → Prop) (S4 : Bool → Nat → Value → Option Addr × Nat → Option Addr × Nat → Value → World → Prop) (d : Nat → Bool) (x23 x24 x25 x26 x27 x28 x29 x30 x31 x2 : Value) (ms : Nat) (r1 : Option Addr × Nat) (r2 : Option Addr × Nat) (w : World) : Prop where
  q3 : d 3 = true → d 1 = true ∧ d 2 = true
  q5 : d 5 = true → d 4 = true
  q6 : d 6 = true → d 3 = true ∧ d 5 = true
  q8 : d 8 = true → d 0 = true ∧ d 6 = true ∧ d 7 = true
  q9 : d 9 = true → d 0 = true ∧ d 1 = true ∧ d 2 = true ∧ d 3 = true ∧ d 4 = true ∧ d 5 = true ∧ d 6 = true ∧ d 7 = true ∧ d 8 = true
  f0 : d 0 = true → x23 = t.v A
  f2 : d 2 = true → x25 = .slice av k cv
  f3 : d 3 = true → x26 = .slice r1.1 k r1.2
  f4 : d 4 = true → x27 = .int .i64 f
  f5 : d 5 = true → x28 = .slice (some ⟨ms, 0, none⟩) 1 1
  f6 : d 6 = true → x29 = .slice r2.1 (k + 1) r2.2
  f7 : d 7 = true → x30 = vo
  f9 : d 9 = true → x2 = x31
  g9 : d 9 = false → vo = x2
  st0 : d 1 = false → S0 (d 5) ms w
  st1 : d 1 = true → d 3 = false → S1 (d 5) ms x24 w
  st2 : d 3 = true → d 6 = false → S2 (d 5) ms x24 r1 w
  st3 : d 6 = true → d 8 = false → S3 (d 5) ms x24 r1 r2 w
  st4 : d 8 = true → S4 (d 5) ms x24 r1 r2 x31 w
  mz : d 5 = false → ms = 0
noncomputable def wor6C : Code := (Try.f72.body.bind (regionAt 6)).getD .skip
set_option maxRecDepth 100000 in
set_option maxHeartbeats 4000000 in
theorem wor6 {t : Tr} {A : TrA} {bx : Nat} {av : Option Addr} {k : Nat} {cv : Nat} {vo : Value} {f : Int} {S0 : Bool → Nat → World → Prop} {S1 : Bool → Nat → Value → World → Prop} {S2 : Bool → Nat → Value → Option Addr × Nat → World → Prop} {S3 : Bool → Nat → Value → Option Addr × Nat → Option Addr × Nat → World → Prop} {S4 : Bool → Nat → Value → Option Addr × Nat → Option Addr × Nat → Value → World → Prop} {Q : Exit → Act → World → Prop} {W1 : World} (h0 : S0 false 0 W1.drew)
    (kl0 : Hid (∀ (fs : Bool) (ms : Nat) (x24 : Value) (r1 : Option Addr × Nat) (r2 : Option Addr × Nat) (w : World), (S0 fs ms w ∨ S1 fs ms x24 w ∨ S2 fs ms x24 r1 w ∨ S3 fs ms x24 r1 r2 w) → w.cell? ⟨bx, 0, none⟩ = some (.int .i64 t.dawn) ∧ w.cell? ⟨bx, 1, none⟩ = some (.slice A.af t.frm.length A.cf) ∧ w.cell? ⟨bx, 2, none⟩ = some (.slice A.aw t.ways.length A.cw) ∧ w.cell? ⟨bx, 3, none⟩ = some (.slice A.as_ t.stay.length A.cs) ∧ w.cell? ⟨bx, 4, none⟩ = some (.slice A.al t.light.length A.cl)))
    (kc1 : Hid (∀ (fs : Bool) (ms : Nat) (w : World), S0 fs ms w → S1 fs ms (.slice (some ⟨w.heap.size, 0, none⟩) 0 0) (w.alloc (.cells #[] 3))))
    (kc3 : Hid (∀ (fs : Bool) (ms : Nat) (x24 : Value) (w : World), S1 fs ms x24 w → ∃ (r1 : Option Addr × Nat) (w' : World), (Builtin.append_ #[26, 26] 26 #[x24, .slice av k cv]).run Try.prog w = .ok (.slice r1.1 k r1.2) w' ∧ S2 fs ms x24 r1 w'))
    (ks0 : Hid (∀ (w : World), S0 false 0 w → S0 true w.heap.size (w.alloc (.cells #[.int .i64 f] 3))))
    (ks1 : Hid (∀ (x24 : Value) (w : World), S1 false 0 x24 w → S1 true w.heap.size x24 (w.alloc (.cells #[.int .i64 f] 3))))
    (ks2 : Hid (∀ (x24 : Value) (r1 : Option Addr × Nat) (w : World), S2 false 0 x24 r1 w → S2 true w.heap.size x24 r1 (w.alloc (.cells #[.int .i64 f] 3))))
    (kc6 : Hid (∀ (ms : Nat) (x24 : Value) (r1 : Option Addr × Nat) (w : World), S2 true ms x24 r1 w → ∃ (r2 : Option Addr × Nat) (w' : World), (Builtin.append_ #[26, 26] 26 #[.slice r1.1 k r1.2, .slice (some ⟨ms, 0, none⟩) 1 1]).run Try.prog w = .ok (.slice r2.1 (k + 1) r2.2) w' ∧ S3 true ms x24 r1 r2 w'))
    (kc8 : Hid (∀ (ms : Nat) (x24 : Value) (r1 : Option Addr × Nat) (r2 : Option Addr × Nat) (w : World), S3 true ms x24 r1 r2 w → Calls Try.prog 72 #[t.v A, .slice r2.1 (k + 1) r2.2, vo] w fun e w' => ∃ x31 : Value, e = .returned (x31) ∧ S4 true ms x24 r1 r2 x31 w'))
    {s0 s4 s5 s6 s8 s9 s10 s11 s12 s13 s14 s15 s16 s17 s18 s19 s20 s21 s22 s23 s24 s25 s26 s27 s28 s29 s30 s31 s32 : Value} {dd : List Deferred}
    (hQ : ∀ (ms : Nat) (x24 : Value) (r1 : Option Addr × Nat) (r2 : Option Addr × Nat) (x31 : Value) (w' : World), S4 true ms x24 r1 r2 x31 w' → Q .normal { tmps := #[s0, .slice av k cv, x31, .pointer (some ⟨bx, 0, none⟩), s4, s5, s6, .int .i64 f, s8, s9, s10, s11, s12, s13, s14, s15, s16, s17, s18, s19, s20, s21, s22, t.v A, x24, .slice av k cv, .slice r1.1 k r1.2, .int .i64 f, .slice (some ⟨ms, 0, none⟩) 1 1, .slice r2.1 (k + 1) r2.2, vo, x31, s32], defers := dd } w') :
    Code.wpIn (wideAt none) 0 Try.prog wor6C Q { tmps := #[s0, .slice av k cv, vo, .pointer (some ⟨bx, 0, none⟩), s4, s5, s6, .int .i64 f, s8, s9, s10, s11, s12, s13, s14, s15, s16, s17, s18, s19, s20, s21, s22, s23, s24, s25, s26, s27, s28, s29, s30, s31, s32], defers := dd } W1 := by
  have HQ := Lib.hid hQ
  clear hQ
  conv => arg 4; whnf
  refine wpIn_region_invG mixed (by kernel_rfl) (fun d_ a_ w' => ∃ (x23 : Value) (x24 : Value) (x25 : Value) (x26 : Value) (x27 : Value) (x28 : Value) (x29 : Value) (x30 : Value) (x31 : Value) (x2 : Value) (ms : Nat) (r1 : Option Addr × Nat) (r2 : Option Addr × Nat), a_ = { tmps := #[s0, .slice av k cv, x2, .pointer (some ⟨bx, 0, none⟩), s4, s5, s6, .int .i64 f, s8, s9, s10, s11, s12, s13, s14, s15, s16, s17, s18, s19, s20, s21, s22, x23, x24, x25, x26, x27, x28, x29, x30, x31, s32], defers := dd } ∧ wor6F t A bx av k cv vo f S0 S1 S2 S3 S4 d_ x23 x24 x25 x26 x27 x28 x29 x30 x31 x2 ms r1 r2 w') ?_ ?_ ?_
  · refine ⟨s23, s24, s25, s26, s27, s28, s29, s30, s31, (vo), 0, default, default, rfl, ?_⟩
    constructor <;> first | rfl | (intro _; rfl) | (intro h; cases h; done) | (intro _; exact h0) | exact h0
  · refine ⟨?_, ?_, ?_, ?_, ?_, ?_, ?_, ?_, ?_, ?_, trivial⟩
    all_goals
      rintro d_ a_ w1 K hd_ hdep ⟨x23, x24, x25, x26, x27, x28, x29, x30, x31, x2, ms, r1, r2, rfl, F⟩ HK
      simp [Region.binds] at hdep
    · have hst : S0 (d_ 5) ms w1 ∨ S1 (d_ 5) ms x24 w1 ∨ S2 (d_ 5) ms x24 r1 w1 ∨ S3 (d_ 5) ms x24 r1 r2 w1 := by
        cases e1 : d_ 1 with
        | false => exact .inl ((F.st0 e1))
        | true =>
          cases e2 : d_ 3 with
          | false => exact .inr (.inl ((F.st1 e1 e2)))
          | true =>
            cases e3 : d_ 6 with
            | false => exact .inr (.inr (.inl ((F.st2 e2 e3))))
            | true =>
              have n_ : d_ 8 = false := by
                cases e_ : d_ 8 with
                | false => rfl
                | true => have h2 := (F.q8 e_).1; rw [show d_ 0 = false from hd_] at h2; cases h2
              exact .inr (.inr (.inr ((F.st3 e3 n_))))
      have kk := kl0.out (d_ 5) ms x24 r1 r2 w1 hst
      obtain ⟨kk0, kk1, kk2, kk3, kk4⟩ := kk
      clear hst
      have HF : Hid (wor6F t A bx av k cv vo f S0 S1 S2 S3 S4 (upd d_ 0) (t.v A) x24 x25 x26 x27 x28 x29 x30 x31 x2 ms r1 r2 w1) := ⟨F.q3, F.q5, F.q6, fun h => ⟨rfl, (F.q8 h).2.1, (F.q8 h).2.2⟩, fun h => ⟨rfl, (F.q9 h).2.1, (F.q9 h).2.2.1, (F.q9 h).2.2.2.1, (F.q9 h).2.2.2.2.1, (F.q9 h).2.2.2.2.2.1, (F.q9 h).2.2.2.2.2.2.1, (F.q9 h).2.2.2.2.2.2.2.1, (F.q9 h).2.2.2.2.2.2.2.2⟩, fun _ => rfl, F.f2, F.f3, F.f4, F.f5, F.f6, F.f7, F.f9, F.g9, F.st0, F.st1, F.st2, F.st3, F.st4, F.mz⟩
      clear F
      go_simp
      exact HK.out _ _ ⟨_, _, _, _, _, _, _, _, _, _, _, _, _, rfl, HF.out⟩
    · have hS := F.st0  hd_
      have hres := kc1.out (d_ 5) ms w1 hS
      have HF : Hid (wor6F t A bx av k cv vo f S0 S1 S2 S3 S4 (upd d_ 1) x23 ((.slice (some ⟨w1.heap.size, 0, none⟩) 0 0)) x25 x26 x27 x28 x29 x30 x31 x2 ms r1 r2 (w1.alloc (.cells #[] 3))) := ⟨fun h => ⟨rfl, (F.q3 h).2⟩, F.q5, F.q6, F.q8, fun h => ⟨(F.q9 h).1, rfl, (F.q9 h).2.2.1, (F.q9 h).2.2.2.1, (F.q9 h).2.2.2.2.1, (F.q9 h).2.2.2.2.2.1, (F.q9 h).2.2.2.2.2.2.1, (F.q9 h).2.2.2.2.2.2.2.1, (F.q9 h).2.2.2.2.2.2.2.2⟩, F.f0, F.f2, F.f3, F.f4, F.f5, F.f6, F.f7, F.f9, F.g9, fun h => (by simp [upd] at h), fun _ _ => hres, fun h _ => (by have h2 : d_ 1 = true := (F.q3 h).1; rw [show d_ 1 = false from hd_] at h2; cases h2), fun h _ => (by have h2 : d_ 1 = true := (F.q3 (F.q6 h).1).1; rw [show d_ 1 = false from hd_] at h2; cases h2), fun h => (by have h2 : d_ 1 = true := (F.q3 (F.q6 (F.q8 h).2.1).1).1; rw [show d_ 1 = false from hd_] at h2; cases h2), F.mz⟩
      clear F hS hres
      go_simp
      exact HK.out _ _ ⟨_, _, _, _, _, _, _, _, _, _, _, _, _, rfl, HF.out⟩
    · have HF : Hid (wor6F t A bx av k cv vo f S0 S1 S2 S3 S4 (upd d_ 2) x23 x24 (.slice av k cv) x26 x27 x28 x29 x30 x31 x2 ms r1 r2 w1) := ⟨fun h => ⟨(F.q3 h).1, rfl⟩, F.q5, F.q6, F.q8, fun h => ⟨(F.q9 h).1, (F.q9 h).2.1, rfl, (F.q9 h).2.2.2.1, (F.q9 h).2.2.2.2.1, (F.q9 h).2.2.2.2.2.1, (F.q9 h).2.2.2.2.2.2.1, (F.q9 h).2.2.2.2.2.2.2.1, (F.q9 h).2.2.2.2.2.2.2.2⟩, F.f0, fun _ => rfl, F.f3, F.f4, F.f5, F.f6, F.f7, F.f9, F.g9, F.st0, F.st1, F.st2, F.st3, F.st4, F.mz⟩
      clear F
      go_simp
      exact HK.out _ _ ⟨_, _, _, _, _, _, _, _, _, _, _, _, _, rfl, HF.out⟩
    · have hS := F.st1 (by simp [hdep] : d_ 1 = true) hd_
      obtain rfl := F.f2 (by simp [hdep])
      obtain ⟨v_, w_, hr, hres⟩ := kc3.out (d_ 5) ms x24 w1 hS
      rw [if_pos (by rfl)]
      refine wpIn_append_run (.tmp 24) (.tmp 25) 26 rfl _ _ _ _ rfl rfl hr ?_
      exact HK.out _ _ ⟨_, _, _, _, _, _, _, _, _, _, ms, v_, r2, rfl, ⟨fun _ => ⟨(show _ from (by simp [hdep] : d_ 1 = true)), (show _ from (by simp [hdep] : d_ 2 = true))⟩, F.q5, fun h => ⟨rfl, (F.q6 h).2⟩, F.q8, fun h => ⟨(F.q9 h).1, (F.q9 h).2.1, (F.q9 h).2.2.1, rfl, (F.q9 h).2.2.2.2.1, (F.q9 h).2.2.2.2.2.1, (F.q9 h).2.2.2.2.2.2.1, (F.q9 h).2.2.2.2.2.2.2.1, (F.q9 h).2.2.2.2.2.2.2.2⟩, F.f0, F.f2, fun _ => rfl, F.f4, F.f5, F.f6, F.f7, F.f9, F.g9, fun h => (by have h2 : d_ 1 = false := h; rw [(by simp [hdep] : d_ 1 = true)] at h2; cases h2), fun _ h => (by simp [upd] at h), fun _ _ => hres, fun h _ => (by have h2 : d_ 3 = true := (F.q6 h).1; rw [show d_ 3 = false from hd_] at h2; cases h2), fun h => (by have h2 : d_ 3 = true := (F.q6 (F.q8 h).2.1).1; rw [show d_ 3 = false from hd_] at h2; cases h2), F.mz⟩⟩
    · have HF : Hid (wor6F t A bx av k cv vo f S0 S1 S2 S3 S4 (upd d_ 4) x23 x24 x25 x26 (.int .i64 f) x28 x29 x30 x31 x2 ms r1 r2 w1) := ⟨F.q3, fun h => rfl, F.q6, F.q8, fun h => ⟨(F.q9 h).1, (F.q9 h).2.1, (F.q9 h).2.2.1, (F.q9 h).2.2.2.1, rfl, (F.q9 h).2.2.2.2.2.1, (F.q9 h).2.2.2.2.2.2.1, (F.q9 h).2.2.2.2.2.2.2.1, (F.q9 h).2.2.2.2.2.2.2.2⟩, F.f0, F.f2, F.f3, fun _ => rfl, F.f5, F.f6, F.f7, F.f9, F.g9, F.st0, F.st1, F.st2, F.st3, F.st4, F.mz⟩
      clear F
      go_simp
      exact HK.out _ _ ⟨_, _, _, _, _, _, _, _, _, _, _, _, _, rfl, HF.out⟩
    · obtain rfl := F.f4 (by simp [hdep])
      have HF : Hid (wor6F t A bx av k cv vo f S0 S1 S2 S3 S4 (upd d_ 5) x23 x24 x25 x26 (.int .i64 f) (.slice (some ⟨w1.heap.size, 0, none⟩) 1 1) x29 x30 x31 x2 w1.heap.size r1 r2 (w1.alloc (.cells #[.int .i64 f] 3))) := ⟨F.q3, fun _ => (show _ from (by simp [hdep] : d_ 4 = true)), fun h => ⟨(F.q6 h).1, rfl⟩, F.q8, fun h => ⟨(F.q9 h).1, (F.q9 h).2.1, (F.q9 h).2.2.1, (F.q9 h).2.2.2.1, (F.q9 h).2.2.2.2.1, rfl, (F.q9 h).2.2.2.2.2.2.1, (F.q9 h).2.2.2.2.2.2.2.1, (F.q9 h).2.2.2.2.2.2.2.2⟩, F.f0, F.f2, F.f3, F.f4, fun _ => rfl, F.f6, F.f7, F.f9, F.g9, fun b => ks0.out w1 (by have h := F.st0 b; rw [show d_ 5 = false from hd_, F.mz hd_] at h; exact h), fun a b => ks1.out x24 w1 (by have h := F.st1 a b; rw [show d_ 5 = false from hd_, F.mz hd_] at h; exact h), fun a b => ks2.out x24 r1 w1 (by have h := F.st2 a b; rw [show d_ 5 = false from hd_, F.mz hd_] at h; exact h), fun a b => (by have h2 : d_ 5 = true := (F.q6 a).2; rw [show d_ 5 = false from hd_] at h2; cases h2), fun a => (by have h2 : d_ 5 = true := (F.q6 (F.q8 a).2.1).2; rw [show d_ 5 = false from hd_] at h2; cases h2), fun h => (by simp [upd] at h)⟩
      clear F
      go_simp
      exact HK.out _ _ ⟨_, _, _, _, _, _, _, _, _, _, _, _, _, rfl, HF.out⟩
    · have hS := F.st2 (by simp [hdep] : d_ 3 = true) hd_
      rw [show d_ 5 = true from (by simp [hdep] : d_ 5 = true)] at hS
      obtain rfl := F.f3 (by simp [hdep])
      obtain rfl := F.f5 (by simp [hdep])
      obtain ⟨v_, w_, hr, hres⟩ := kc6.out ms x24 r1 w1 hS
      rw [if_pos (by rfl)]
      refine wpIn_append_run (.tmp 26) (.tmp 28) 26 rfl _ _ _ _ rfl rfl hr ?_
      exact HK.out _ _ ⟨_, _, _, _, _, _, _, _, _, _, ms, r1, v_, rfl, ⟨F.q3, F.q5, fun _ => ⟨(show _ from (by simp [hdep] : d_ 3 = true)), (show _ from (by simp [hdep] : d_ 5 = true))⟩, fun h => ⟨(F.q8 h).1, rfl, (F.q8 h).2.2⟩, fun h => ⟨(F.q9 h).1, (F.q9 h).2.1, (F.q9 h).2.2.1, (F.q9 h).2.2.2.1, (F.q9 h).2.2.2.2.1, (F.q9 h).2.2.2.2.2.1, rfl, (F.q9 h).2.2.2.2.2.2.2.1, (F.q9 h).2.2.2.2.2.2.2.2⟩, F.f0, F.f2, F.f3, F.f4, F.f5, fun _ => rfl, F.f7, F.f9, F.g9, fun h => (by have h2 : d_ 1 = false := h; rw [(F.q3 (by simp [hdep] : d_ 3 = true)).1] at h2; cases h2), fun _ h => (by have h2 : d_ 3 = false := h; rw [(by simp [hdep] : d_ 3 = true)] at h2; cases h2), fun _ h => (by simp [upd] at h), fun _ _ => (by rw [show upd d_ 6 5 = true from (by simp [hdep] : d_ 5 = true)]; exact hres), fun h => (by have h2 : d_ 6 = true := (F.q8 h).2.1; rw [show d_ 6 = false from hd_] at h2; cases h2), F.mz⟩⟩
    · have n9_ : d_ 9 = false := by
        cases e_ : d_ 9 with
        | false => rfl
        | true => have h2 := (F.q9 e_).2.2.2.2.2.2.2.1; rw [show d_ 7 = false from hd_] at h2; cases h2
      have g9_ := F.g9 n9_
      subst g9_
      have HF : Hid (wor6F t A bx av k cv vo f S0 S1 S2 S3 S4 (upd d_ 7) x23 x24 x25 x26 x27 x28 x29 (vo) x31 (vo) ms r1 r2 w1) := ⟨F.q3, F.q5, F.q6, fun h => ⟨(F.q8 h).1, (F.q8 h).2.1, rfl⟩, fun h => ⟨(F.q9 h).1, (F.q9 h).2.1, (F.q9 h).2.2.1, (F.q9 h).2.2.2.1, (F.q9 h).2.2.2.2.1, (F.q9 h).2.2.2.2.2.1, (F.q9 h).2.2.2.2.2.2.1, rfl, (F.q9 h).2.2.2.2.2.2.2.2⟩, F.f0, F.f2, F.f3, F.f4, F.f5, F.f6, fun _ => rfl, F.f9, F.g9, F.st0, F.st1, F.st2, F.st3, F.st4, F.mz⟩
      clear F
      go_simp
      exact HK.out _ _ ⟨_, _, _, _, _, _, _, _, _, _, _, _, _, rfl, HF.out⟩
    · have hS := F.st3 (by simp [hdep] : d_ 6 = true) hd_
      rw [show d_ 5 = true from (F.q6 (by simp [hdep] : d_ 6 = true)).2] at hS
      obtain rfl := F.f0 (by simp [hdep])
      obtain rfl := F.f6 (by simp [hdep])
      obtain rfl := F.f7 (by simp [hdep])
      have hc := kc8.out ms x24 r1 r2 w1 hS
      have HF := Lib.hid F
      clear F
      go_simp
      refine ⟨trivial, rfl, wideAt_calls (hc.mono ?_)⟩
      rintro e w5 ⟨v_, rfl, hres⟩
      exact HK.out _ _ ⟨_, _, _, _, _, _, _, _, _, _, ms, r1, r2, rfl, ⟨HF.out.q3, HF.out.q5, HF.out.q6, fun _ => ⟨(show _ from (by simp [hdep] : d_ 0 = true)), (show _ from (by simp [hdep] : d_ 6 = true)), (show _ from (by simp [hdep] : d_ 7 = true))⟩, fun h => ⟨(HF.out.q9 h).1, (HF.out.q9 h).2.1, (HF.out.q9 h).2.2.1, (HF.out.q9 h).2.2.2.1, (HF.out.q9 h).2.2.2.2.1, (HF.out.q9 h).2.2.2.2.2.1, (HF.out.q9 h).2.2.2.2.2.2.1, (HF.out.q9 h).2.2.2.2.2.2.2.1, rfl⟩, HF.out.f0, HF.out.f2, HF.out.f3, HF.out.f4, HF.out.f5, HF.out.f6, HF.out.f7, fun h => (by have h2 : d_ 8 = true := (HF.out.q9 h).2.2.2.2.2.2.2.2; rw [show d_ 8 = false from hd_] at h2; cases h2), HF.out.g9, fun h => (by have h2 : d_ 1 = false := h; rw [(HF.out.q3 (HF.out.q6 (by simp [hdep] : d_ 6 = true)).1).1] at h2; cases h2), fun _ h => (by have h2 : d_ 3 = false := h; rw [(HF.out.q6 (by simp [hdep] : d_ 6 = true)).1] at h2; cases h2), fun _ h => (by have h2 : d_ 6 = false := h; rw [(by simp [hdep] : d_ 6 = true)] at h2; cases h2), fun _ h => (by simp [upd] at h), fun _ => (by rw [show upd d_ 8 5 = true from (HF.out.q6 (by simp [hdep] : d_ 6 = true)).2]; exact hres), HF.out.mz⟩⟩
    · have HF : Hid (wor6F t A bx av k cv vo f S0 S1 S2 S3 S4 (upd d_ 9) x23 x24 x25 x26 x27 x28 x29 x30 x31 (x31) ms r1 r2 w1) := ⟨F.q3, F.q5, F.q6, F.q8, fun _ => ⟨(show _ from (by simp [hdep] : d_ 0 = true)), (show _ from (by simp [hdep] : d_ 1 = true)), (show _ from (by simp [hdep] : d_ 2 = true)), (show _ from (by simp [hdep] : d_ 3 = true)), (show _ from (by simp [hdep] : d_ 4 = true)), (show _ from (by simp [hdep] : d_ 5 = true)), (show _ from (by simp [hdep] : d_ 6 = true)), (show _ from (by simp [hdep] : d_ 7 = true)), (show _ from (by simp [hdep] : d_ 8 = true))⟩, F.f0, F.f2, F.f3, F.f4, F.f5, F.f6, F.f7, fun _ => rfl, fun h => (by simp [upd] at h), F.st0, F.st1, F.st2, F.st3, F.st4, F.mz⟩
      clear F
      go_simp
      exact HK.out _ _ ⟨_, _, _, _, _, _, _, _, _, _, _, _, _, rfl, HF.out⟩
  · rintro d_ a_ w1 hall ⟨x23, x24, x25, x26, x27, x28, x29, x30, x31, x2, ms, r1, r2, rfl, F⟩
    have hall' : ∀ k, k < 10 → d_ k = true := hall
    obtain rfl := F.f0 (hall' 0 (by decide))
    obtain rfl := F.f2 (hall' 2 (by decide))
    obtain rfl := F.f3 (hall' 3 (by decide))
    obtain rfl := F.f4 (hall' 4 (by decide))
    obtain rfl := F.f5 (hall' 5 (by decide))
    obtain rfl := F.f6 (hall' 6 (by decide))
    obtain rfl := F.f7 (hall' 7 (by decide))
    have h_ := (F.f9 (hall' 9 (by decide))).symm
    subst h_
    have hst := F.st4 (hall' 8 (by decide))
    rw [show d_ 5 = true from hall' 5 (by decide)] at hst
    exact HQ.out ms x24 r1 r2 x31 w1 hst
end Go.Proofs.Ytphefhpmbahagaa

namespace Go.Proofs.Ytphefhpmbahagaa
open Go.RowKit
set_option linter.unusedVariables false
set_option linter.unusedSimpArgs false

def accD (D : Nat → List (List Int)) (pre : List Int) (acc : List (List Int)) (j : Nat) : List (List Int) := acc ++ [pre] ++ (List.range j).flatMap D
theorem accD_zero (D : Nat → List (List Int)) (pre : List Int) (acc : List (List Int)) : accD D pre acc 0 = acc ++ [pre] := by simp [accD]
theorem accD_succ (D : Nat → List (List Int)) (pre : List Int) (acc : List (List Int)) (j : Nat) : accD D pre acc (j + 1) = accD D pre acc j ++ D j := by
  unfold accD
  rw [List.range_succ, List.flatMap_append]
  simp
theorem accD_mono (D : Nat → List (List Int)) (pre : List Int) (acc : List (List Int)) (j : Nat) : ∀ m, (accD D pre acc j).length ≤ (accD D pre acc (j + m)).length
  | 0 => Nat.le_refl _
  | m + 1 => by
    have h1 := accD_mono D pre acc j m
    rw [show j + (m + 1) = j + m + 1 from rfl, accD_succ, List.length_append]
    omega
theorem accD_le (D : Nat → List (List Int)) (pre : List Int) (acc : List (List Int)) {j n : Nat} (h : j < n) : (accD D pre acc j).length + (D j).length ≤ (accD D pre acc n).length := by
  have h1 := accD_mono D pre acc (j + 1) (n - (j + 1))
  rw [show j + 1 + (n - (j + 1)) = n by omega, accD_succ, List.length_append] at h1
  exact h1
set_option maxRecDepth 100000 in
set_option maxHeartbeats 4000000 in
theorem orders_step {W0 : World} {t : Tr} {TA : TrA} (hn : t.frm.length ≤ 16) (D : Nat → List (List Int)) {pre : List Int} (hin : ∀ j, j < t.frm.length → (j : Int) ∈ pre → D j = []) (hpl : pre.length ≤ 16)
    (hcall : ∀ j, j < t.frm.length → (j : Int) ∉ pre → ∀ (acc : List (List Int)) (A : World) (vp vo : Value), acc.length + (D j).length ≤ 1000000 → Below W0.heap.size W0 A → RowsAt A W0.heap.size vo acc → A.ownsRow W0.heap.size 3 1 vp (pre ++ [(j : Int)]).length ((pre ++ [(j : Int)]).map (Value.int .i64)) →
      Calls Try.prog 72 #[t.v TA, vp, vo] A fun e A' => ∃ v', e = .returned v' ∧ WyPost W0.heap.size (acc ++ D j) A vo v' A')
    {acc : List (List Int)} {A : World} {vp vo : Value} (hacc : (accD D pre acc t.frm.length).length ≤ 1000000) (hA : Below W0.heap.size W0 A) (hR : RowsAt A W0.heap.size vo acc) (hown : A.ownsRow W0.heap.size 3 1 vp pre.length (pre.map (Value.int .i64))) :
    Calls Try.prog 72 #[t.v TA, vp, vo] A fun e A' => ∃ v', e = .returned v' ∧ WyPost W0.heap.size (accD D pre acc t.frm.length) A vo v' A' := by
  have hb0 : Below A.heap.size A (A.alloc (.cells (t.cells TA) 25)) := (Below.refl _ A).alloc (Nat.le_refl _) _
  have q0 := World.alloc_heap_new A (.cells (t.cells TA) 25)
  have s0 : (A.alloc (.cells (t.cells TA) 25)).heap.size = A.heap.size + 1 := World.size_alloc ..
  obtain ⟨av, cv, rfl, _⟩ := own_slice hown
  have hle := accD_le D pre acc (j := 0) (n := t.frm.length)
  have hle0 : acc.length ≤ 1000000 := by
    have := accD_mono D pre acc 0 t.frm.length
    rw [Nat.zero_add, accD_zero, List.length_append] at this
    omega
  have HH := Lib.hid (And.intro hb0 (And.intro q0 (And.intro s0 (And.intro hA (And.intro hR (And.intro hown (And.intro hacc hle0)))))))
  have HIN := Lib.hid hin
  have HIH := Lib.hid hcall
  clear hle hle0 hin hcall hb0 q0 s0 hA hR hown hacc
  go_enter Try.func72, Try.ntmps72
  go_upto_region 1 with fail
  revert HH
  generalize A.alloc (.cells (t.cells TA) 25) = A1
  intro HH
  have HA1 := Lib.hid (And.intro (HH.out.2.2.2.2.1.below HH.out.1) (And.intro (HH.out.2.2.2.1.trans (HH.out.1.mono HH.out.2.2.2.1.size)) (own_below HH.out.2.2.2.2.2.1 HH.out.1)))
  obtain ⟨v1, w1, hrun, hpost⟩ := rows_add HA1.out.1 (Below.refl _ _) HA1.out.2.2 HA1.out.2.1.size HH.out.2.2.2.2.2.2.2
  rw [← accD_zero D] at hpost
  obtain ⟨vs1, hvs1, _⟩ := id hpost.rows
  obtain ⟨a1, c1, rfl, _⟩ := own_slice hvs1
  have HR := Lib.hid hrun
  have HQ := Lib.hid hpost
  clear hrun hpost hvs1
  go_wp2_with (at_builtin; refine wpList_append_run rfl (.tmp 8) (.tmp 10) 95 rfl _ _ _ _ rfl rfl HR.out ?_)
  go_loopw [2, 7] (fun o q wr => ∃ (j : Nat) (ao' : Option Addr) (co' : Nat), j ≤ t.frm.length ∧ q = .int .i64 (j : Int) ∧ o = .slice ao' (accD D pre acc j).length co' ∧ Hid (WyPost W0.heap.size (accD D pre acc j) A1 vo o wr)) (fun o q _ => (t.frm.length : Int) - intOf q |>.toNat)
  case atStart => exact ⟨0, a1, c1, by omega, by go_num, rfl, HQ.out⟩
  case round =>
    obtain ⟨j, ao', co', hj, rfl, rfl, HW⟩ := hrel
    have hbw := HW.out.below HA1.out.1 HA1.out.2.1.size
    have hq := (HW.out.grown.block A.heap.size (by have := HH.out.2.2.1; omega) (fun e => by have := (HH.out.2.2.2.2.1.lt e.symm).2; omega)).trans HH.out.2.1
    obtain ⟨k0, k1, k2, k3, k4⟩ := tr_cells hq
    have HB := Lib.hid (HA1.out.2.1.trans hbw)
    have HQ2 := Lib.hid hq
    have hown' := HW.out.ints HA1.out.1 HA1.out.2.2
    have HO := Lib.hid hown'
    have HIX := Lib.hid (has94 (cap := cv) (v := (j : Int)) (show pre.length ≤ 1000 by omega) (own_ints hown'))
    clear hbw hq hown'
    by_cases hlt : j < t.frm.length
    · by_cases hf : (j : Int) ∈ pre
      · have HS : Hid (accD D pre acc (j + 1) = accD D pre acc j) := by
          rw [Hid, accD_succ, HIN.out j hlt hf]
          simp
        have hd : decide ((j : Int) ∈ pre) = true := by simpa using hf
        rw [hd] at HIX
        clear hf hd
        go_wp2_with fail
        refine HIX.out.mono ?_
        rintro e w5 ⟨rfl, rfl⟩
        go_wp2_with fail
        go_roundw
        case rel => exact ⟨j + 1, ao', co', by omega, by go_num, by rw [HS.out], by rw [Hid, HS.out]; exact HW.out⟩
        case measure => simp [intOf]; omega
      · have HS : Hid (accD D pre acc (j + 1) = accD D pre acc j ++ D j) := accD_succ D pre acc j
        have HL : Hid ((accD D pre acc j).length + (D j).length ≤ 1000000) := by
          have h1 := accD_le D pre acc hlt
          have h2 := HH.out.2.2.2.2.2.2.1
          rw [Hid]
          omega
        have HC := Lib.hid (HIH.out j hlt hf)
        have hd : decide ((j : Int) ∈ pre) = false := by simpa using hf
        rw [hd] at HIX
        clear hf hd
        go_wp2_with fail
        refine HIX.out.mono ?_
        rintro e w5 ⟨rfl, rfl⟩
        go_wp2_with fail
        clear k0 k1 k2 k3 k4 HIX
        have hj0 : (0 : Int) ≤ (j : Int) ∧ (j : Int) ≤ 16 := by omega
        have HJ := Lib.hid (And.intro hj hlt)
        obtain ⟨f, hfe⟩ : ∃ f : Int, (j : Int) = f := ⟨_, rfl⟩
        have HFE := Lib.hid hfe
        rw [hfe] at hj0 HC ⊢
        have hW0 : Below wr.heap.size wr wr := Below.refl _ wr
        have kp : ∀ v, Below wr.heap.size wr v → v.cell? ⟨A.heap.size, 0, none⟩ = some (.int .i64 t.dawn) ∧ v.cell? ⟨A.heap.size, 1, none⟩ = some (.slice TA.af t.frm.length TA.cf) ∧ v.cell? ⟨A.heap.size, 2, none⟩ = some (.slice TA.aw t.ways.length TA.cw) ∧ v.cell? ⟨A.heap.size, 3, none⟩ = some (.slice TA.as_ t.stay.length TA.cs) ∧ v.cell? ⟨A.heap.size, 4, none⟩ = some (.slice TA.al t.light.length TA.cl) := fun v h => tr_cells ((h.block _ (heap_lt HQ2.out)).trans HQ2.out)
        refine wpIn_wide.1 (wor6 (t := t) (A := TA) (bx := A.heap.size) (av := av) (k := pre.length) (cv := cv) (vo := .slice ao' (accD D pre acc j).length co') (f := f)
          (S0 := fun fs ms w => Below wr.heap.size wr w ∧ (fs = true → wr.heap.size ≤ ms ∧ w.heap[ms]? = some (.cells #[.int .i64 f] 3 (0, 0))))
          (S1 := fun fs ms xs w => Below wr.heap.size wr w ∧ w.ownsRow wr.heap.size 3 1 xs 0 [] ∧ (fs = true → xs.ownBlock ≠ some ms ∧ w.heap[ms]? = some (.cells #[.int .i64 f] 3 (0, 0))))
          (S2 := fun fs ms xs r1 w => Below wr.heap.size wr w ∧ w.ownsRow wr.heap.size 3 1 (.slice r1.1 pre.length r1.2) pre.length (pre.map (Value.int .i64)) ∧ (fs = true → w.heap[ms]? = some (.cells #[.int .i64 f] 3 (0, 0))))
          (S3 := fun fs ms xs r1 r2 w => Below wr.heap.size wr w ∧ w.ownsRow wr.heap.size 3 1 (.slice r2.1 (pre.length + 1) r2.2) (pre ++ [f]).length ((pre ++ [f]).map (Value.int .i64)))
          (S4 := fun fs ms xs r1 r2 x41 w => WyPost W0.heap.size (accD D pre acc (j + 1)) wr (.slice ao' (accD D pre acc j).length co') x41 w)
          ?h0 ?l0 ?c1 ?c3 ?s0 ?s1 ?s2 ?c6 ?c8 ?hQ)
        case h0 => exact ⟨hW0.drew, fun h => by cases h⟩
        case l0 =>
          intro fs ms xs r1 r2 w h
          refine kp w ?_
          rcases h with h | h | h | h <;> exact h.1
        case c1 => exact fun fs ms w h => ⟨h.1.alloc h.1.size _, ownsRow_zero h.1.size, fun hf => ⟨fun e => by have e' : some w.heap.size = some ms := e; cases e'; have := heap_lt (h.2 hf).2; omega, (Below.heap_alloc w _ ms (heap_lt (h.2 hf).2)).trans (h.2 hf).2⟩⟩
        case c3 =>
          intro fs ms xs w h
          obtain ⟨r1, w', hrun, hb', ho', hk⟩ := copy_new (cv := cv) (by omega) h.1 h.2.1 ((own_ints HO.out).mono h.1)
          exact ⟨r1, w', hrun, hb', ho', fun hf => (hk ms (heap_lt (h.2.2 hf).2) (h.2.2 hf).1).1.trans (h.2.2 hf).2⟩
        case s0 => exact fun w h => ⟨h.1.alloc h.1.size _, fun _ => ⟨h.1.size, World.alloc_heap_new _ _⟩⟩
        case s1 => exact fun xs w h => ⟨h.1.alloc h.1.size _, h.2.1.alloc _, fun _ => ⟨fun e => by have := (h.2.1.lt _ e).2; omega, World.alloc_heap_new _ _⟩⟩
        case s2 => exact fun xs r1 w h => ⟨h.1.alloc h.1.size _, h.2.1.alloc _, fun _ => World.alloc_heap_new _ _⟩
        case c6 =>
          intro ms xs r1 w h
          obtain ⟨r2, w', hrun, hb', ho'⟩ := copy_more (by omega) h.1 h.2.1 (h.2.2 rfl)
          exact ⟨r2, w', hrun, hb', ho'⟩
        case c8 =>
          intro ms xs r1 r2 w h
          have hwr : W0.heap.size ≤ wr.heap.size := HB.out.size
          refine (HC.out (accD D pre acc j) w (.slice r2.1 (pre.length + 1) r2.2) (.slice ao' (accD D pre acc j).length co') HL.out (HB.out.trans (h.1.mono hwr)) (HW.out.rows.below h.1) (own_base h.2 hwr)).mono ?_
          rintro e w' ⟨v', rfl, hp⟩
          exact ⟨v', rfl, by rw [HS.out]; exact WyPost.after h.1 hp⟩
        case hQ =>
          intro ms xs r1 r2 x41 w' h
          have h2 := HW.out.trans h
          obtain ⟨vs2, hvs2, _⟩ := id h.rows
          obtain ⟨a2, c2, rfl, _⟩ := own_slice hvs2
          have H2 := Lib.hid h2
          obtain ⟨hf0, hf1⟩ := hj0
          clear hvs2 h h2 kp hW0
          go_wp2_with fail
          go_roundw
          case rel => exact ⟨j + 1, a2, c2, by have := HJ.out; omega, by have := HFE.out; go_num, rfl, H2.out⟩
          case measure => have := HJ.out; have := HFE.out; simp [intOf]; omega
    · obtain rfl : j = t.frm.length := by omega
      go_wp2_with fail
      go_ret
      exact ⟨_, rfl, WyPost.after HH.out.1 HW.out⟩
end Go.Proofs.Ytphefhpmbahagaa

namespace Go.Proofs.Ytphefhpmbahagaa
open Go.RowKit
set_option linter.unusedVariables false
set_option linter.unusedSimpArgs false

/-- Numbers below n, each once: there are at most n; if there are n, each is among them. -/
theorem all_in : ∀ (n : Nat) (l : List Int), l.Nodup → (∀ x ∈ l, 0 ≤ x ∧ x < n) → l.length ≤ n ∧ (l.length = n → ∀ j, j < n → (j : Int) ∈ l)
  | 0, l, hd, hr => by
    cases l with
    | nil => exact ⟨Nat.le_refl _, fun _ j hj => by omega⟩
    | cons x r => have := hr x (by simp); omega
  | n + 1, l, hd, hr => by
    by_cases hm : (n : Int) ∈ l
    · have hlen : (l.erase (n : Int)).length + 1 = l.length := by
        have h1 := List.length_erase_of_mem hm
        have h2 := List.length_pos_of_mem hm
        omega
      obtain ⟨h1, h2⟩ := all_in n (l.erase (n : Int)) (hd.erase _) (fun x hx => by
        have hx' := (List.Nodup.mem_erase_iff hd).1 hx
        have := hr x hx'.2
        have := hx'.1
        omega)
      refine ⟨by omega, fun e j hj => ?_⟩
      by_cases hjn : j = n
      · subst hjn; exact hm
      · exact List.mem_of_mem_erase (h2 (by omega) j (by omega))
    · obtain ⟨h1, h2⟩ := all_in n l hd (fun x hx => by
        have := hr x hx
        have : x ≠ (n : Int) := fun e => hm (e ▸ hx)
        omega)
      exact ⟨by omega, fun e => by omega⟩
def preO (n : Nat) : Nat → List Int → List (List Int)
  | 0, pre => [pre]
  | d + 1, pre => pre :: (List.range n).flatMap fun (v : Nat) => if (v : Int) ∈ pre then [] else preO n d (pre ++ [(v : Int)])
def preF (n d : Nat) (pre : List Int) (v : Nat) : List (List Int) := if (v : Int) ∈ pre then [] else preO n d (pre ++ [(v : Int)])
theorem preO_succ (n d : Nat) (pre : List Int) : preO n (d + 1) pre = pre :: (List.range n).flatMap (preF n d pre) := rfl
theorem preO_len (n : Nat) : ∀ (d : Nat) (pre : List Int), (preO n d pre).length ≤ (n + 1) ^ d
  | 0, pre => by simp [preO]
  | d + 1, pre => by
    have h := flatMap_le (preF n d pre) ((n + 1) ^ d) (List.range n) (fun x _ => by
      unfold preF
      split
      · simp
      · exact preO_len n d _)
    have hp : 0 < (n + 1) ^ d := Nat.pos_of_ne_zero (by simp)
    rw [preO_succ, List.length_cons, Nat.pow_succ, Nat.mul_succ]
    rw [List.length_range, Nat.mul_comm] at h
    omega
theorem preO_tour {n : Nat} : ∀ (d : Nat) (pre : List Int), pre.length + d = n → (preO n d pre).filter (fun x => decide (x.length = n)) = tourP n d pre
  | 0, pre, h => by simp [preO, tourP]; omega
  | d + 1, pre, h => by
    have hp : decide (pre.length = n) = false := by simp; omega
    rw [preO_succ, List.filter_cons, hp, List.filter_flatMap]
    simp only [Bool.false_eq_true, if_false]
    rw [tourP_succ]
    congr 1
    funext v
    unfold preF onF
    split
    · rfl
    · exact preO_tour d _ (by simp; omega)
theorem preO_mem {n : Nat} : ∀ (d : Nat) (pre x : List Int), x ∈ preO n d pre → (∀ v ∈ pre, 0 ≤ v ∧ v < n) → pre.Nodup → (∀ v ∈ x, 0 ≤ v ∧ v < n) ∧ x.Nodup
  | 0, pre, x, hx, hr, hd => by
    simp [preO] at hx
    subst hx
    exact ⟨hr, hd⟩
  | d + 1, pre, x, hx, hr, hd => by
    rw [preO_succ, List.mem_cons, List.mem_flatMap] at hx
    rcases hx with rfl | ⟨v, hv, hx⟩
    · exact ⟨hr, hd⟩
    · unfold preF at hx
      have hv : v < n := by simpa using hv
      split at hx
      · cases hx
      · rename_i hn
        refine preO_mem d _ x hx (fun y hy => ?_) ?_
        · rcases List.mem_append.1 hy with hy | hy
          · exact hr y hy
          · have : y = (v : Int) := by simpa using hy
            omega
        · rw [List.nodup_append]
          refine ⟨hd, by simp, fun a ha b hb e => ?_⟩
          have : b = (v : Int) := by simpa using hb
          subst this
          exact hn (e ▸ ha)
theorem preO_len6 {n : Nat} (h : n ≤ 6) : (preO n n []).length ≤ 117649 := by
  refine Nat.le_trans (preO_len n n []) ?_
  have : n = 0 ∨ n = 1 ∨ n = 2 ∨ n = 3 ∨ n = 4 ∨ n = 5 ∨ n = 6 := by omega
  rcases this with rfl | rfl | rfl | rfl | rfl | rfl | rfl <;> decide
theorem orders72 {W0 : World} {t : Tr} {TA : TrA} (hn : t.frm.length ≤ 6) : ∀ (d : Nat) (pre : List Int) (acc : List (List Int)) (A : World) (vp vo : Value), pre.length + d = t.frm.length → (∀ x ∈ pre, 0 ≤ x ∧ x < t.frm.length) → pre.Nodup →
    acc.length + (preO t.frm.length d pre).length ≤ 1000000 → Below W0.heap.size W0 A → RowsAt A W0.heap.size vo acc → A.ownsRow W0.heap.size 3 1 vp pre.length (pre.map (Value.int .i64)) →
    Calls Try.prog 72 #[t.v TA, vp, vo] A fun e A' => ∃ v', e = .returned v' ∧ WyPost W0.heap.size (acc ++ preO t.frm.length d pre) A vo v' A' := by
  intro d
  induction d with
  | zero =>
    intro pre acc A vp vo hl hr hd hacc hA hR hown
    have hall := (all_in t.frm.length pre hd hr).2 (by omega)
    have e : accD (fun _ => []) pre acc t.frm.length = acc ++ preO t.frm.length 0 pre := by simp [accD, preO]
    have := orders_step (W0 := W0) (t := t) (TA := TA) (by omega) (fun _ => []) (pre := pre) (fun _ _ _ => rfl) (by omega) (fun j hj hn => absurd (hall j hj) hn) (acc := acc) (A := A) (vp := vp) (vo := vo) (by rw [e, List.length_append]; exact hacc) hA hR hown
    rw [e] at this
    exact this
  | succ d ih =>
    intro pre acc A vp vo hl hr hd hacc hA hR hown
    have e : accD (preF t.frm.length d pre) pre acc t.frm.length = acc ++ preO t.frm.length (d + 1) pre := by simp [accD, preO_succ]
    have := orders_step (W0 := W0) (t := t) (TA := TA) (by omega) (preF t.frm.length d pre) (pre := pre) (fun j _ hj => by unfold preF; rw [if_pos hj]) (by omega) (fun j hj hn acc A vp vo h1 h2 h3 h4 => by
      unfold preF at h1 ⊢
      rw [if_neg hn] at h1 ⊢
      refine ih (pre ++ [(j : Int)]) acc A vp vo (by simp; omega) (fun y hy => ?_) ?_ h1 h2 h3 h4
      · rcases List.mem_append.1 hy with hy | hy
        · exact hr y hy
        · have : y = (j : Int) := by simpa using hy
          omega
      · rw [List.nodup_append]
        refine ⟨hd, by simp, fun a ha b hb e => ?_⟩
        have : b = (j : Int) := by simpa using hb
        subst this
        exact hn (e ▸ ha)) (acc := acc) (A := A) (vp := vp) (vo := vo) (by rw [e, List.length_append]; exact hacc) hA hR hown
    rw [e] at this
    exact this
/-- The orders, of no more than all views. -/
theorem orders_ref {w : World} {t : Tr} {TA : TrA} (hn : t.frm.length ≤ 6) :
    Calls Try.prog 72 #[t.v TA, .slice none 0 0, .slice none 0 0] w fun e w' => ∃ v', e = .returned v' ∧ RowsAt w' w.heap.size v' (preO t.frm.length t.frm.length []) ∧ Below w.heap.size w w' := by
  refine (orders72 (W0 := w) (TA := TA) hn t.frm.length [] [] w (.slice none 0 0) (.slice none 0 0) (by simp) (by simp) List.nodup_nil (by have := preO_len6 hn; simp; omega) (Below.refl _ _) rows_nil (World.ownsRow_nil _ _ _ _)).mono ?_
  rintro e w' ⟨v', rfl, hp⟩
  have hr := hp.rows
  rw [List.nil_append] at hr
  exact ⟨v', rfl, hr, hp.below rows_nil (Nat.le_refl _)⟩
end Go.Proofs.Ytphefhpmbahagaa

namespace Go.Proofs.Ytphefhpmbahagaa
open Go.RowKit
set_option linter.unusedVariables false
set_option linter.unusedSimpArgs false

def allF (n : Nat) (l : List (List Int)) (j : Nat) : List (List Int) := (l.take j).filter (fun x => decide (x.length = n))
theorem allF_succ {n : Nat} {l : List (List Int)} {j : Nat} {x : List Int} (h : l[j]? = some x) : allF n l (j + 1) = allF n l j ++ (if x.length = n then [x] else []) := by
  unfold allF
  rw [List.take_add_one, h, List.filter_append]
  congr 1
  by_cases e : x.length = n <;> simp [e]
theorem allF_le (n : Nat) (l : List (List Int)) (j : Nat) : (allF n l j).length ≤ j := by
  unfold allF
  refine Nat.le_trans (List.length_filter_le _ _) ?_
  simp; omega
theorem RowsOf.add {w : World} {B : Nat} {vs : List Value} {l : List (List Int)} {v : Value} {x : List Int} (h : RowsOf w B vs l) (hv : w.ownsRow B 3 1 v x.length (x.map (Value.int .i64))) : RowsOf w B (vs ++ [v]) (l ++ [x]) := by
  refine ⟨by simp [h.1], fun i y hy => ?_⟩
  rcases Nat.lt_trichotomy i l.length with hi | hi | hi
  · rw [List.getElem?_append_left hi] at hy
    obtain ⟨c, h1, h2⟩ := h.2 i y hy
    exact ⟨c, by rw [List.getElem?_append_left (by rw [h.1]; exact hi)]; exact h1, h2⟩
  · rw [hi, List.getElem?_append_right (Nat.le_refl _)] at hy
    simp at hy
    subst hy
    exact ⟨v, by rw [hi, ← h.1, List.getElem?_append_right (Nat.le_refl _)]; simp, hv⟩
  · rw [List.getElem?_eq_none (by simp; omega)] at hy
    cases hy
set_option maxRecDepth 100000 in
set_option maxHeartbeats 4000000 in
theorem all68 {w : World} {t : Tr} {TA : TrA} (hn : t.frm.length ≤ 6) :
    Calls Try.prog 68 #[t.v TA] w fun e w' => ∃ v', e = .returned v' ∧ RowsAt w' w.heap.size v' (toursL t.frm.length) ∧ Below w.heap.size w w' := by
  have hbw : Below w.heap.size w (w.alloc (.cells (t.cells TA) 25)) := (Below.refl _ w).alloc (Nat.le_refl _) _
  have hq := World.alloc_heap_new w (.cells (t.cells TA) 25)
  have HB := Lib.hid (And.intro hbw hq)
  have HL := Lib.hid (preO_len6 hn)
  have HT : Hid (allF t.frm.length (preO t.frm.length t.frm.length []) (preO t.frm.length t.frm.length []).length = toursL t.frm.length) := by
    unfold Hid allF
    rw [List.take_length, preO_tour _ _ (by simp)]
    rfl
  clear hbw hq
  go_enter Try.func68, Try.ntmps68
  go_upto_region 1 with fail
  revert HB
  generalize w.alloc (.cells (t.cells TA) 25) = w1
  intro HB
  obtain ⟨k0, k1, k2, k3, k4⟩ := tr_cells HB.out.2
  go_wp2_with fail
  refine (orders_ref hn).mono ?_
  rintro e W ⟨v3, rfl, hr, hb⟩
  obtain ⟨vs3, h1, h2⟩ := hr
  have hpos : 0 < (preO t.frm.length t.frm.length []).length := by
    cases t.frm.length <;> simp [preO]
  obtain ⟨g, c3, rfl, hg1, hg2, hc1, hc2, hcell⟩ := own_cell h1 hpos
  generalize hP : preO t.frm.length t.frm.length [] = P at *
  have H1 := Lib.hid (And.intro h2 (And.intro hcell (And.intro ((hb.block _ (heap_lt HB.out.2)).trans HB.out.2) (HB.out.1.trans (hb.mono HB.out.1.size)))))
  have HWS := Lib.hid (And.intro hb.size (heap_lt HB.out.2))
  have hpl : P.length ≤ 117649 := HL.out

  clear k0 k1 k2 k3 k4 h1 h2 hcell hb HL hP hg1 hg2
  go_wp2_with fail
  go_loopw [4, 5] (fun o q wr => ∃ (j : Nat) (ao : Option Addr) (co : Nat) (vs : List Value), j ≤ P.length ∧ q = .int .i64 (j : Int) ∧ o = .slice ao (allF t.frm.length P j).length co ∧ Hid (wr.ownsRow W.heap.size 26 1 o (allF t.frm.length P j).length vs ∧ RowsOf W w1.heap.size vs (allF t.frm.length P j) ∧ Below W.heap.size W wr)) (fun o q _ => (P.length : Int) - intOf q |>.toNat)
  case atStart => exact ⟨0, none, 0, [], by omega, by go_num, rfl, World.ownsRow_nil _ _ _ _, ⟨rfl, fun i x hx => by simp [allF] at hx⟩, Below.refl _ _⟩
  case round =>
    obtain ⟨j, ao, co, vs, hj, rfl, rfl, HI⟩ := hrel
    by_cases hlt : j < P.length
    · obtain ⟨x, hx⟩ : ∃ x, P[j]? = some x := ⟨_, List.getElem?_eq_getElem hlt⟩
      obtain ⟨vc, hv1, hv2⟩ := H1.out.1.2 j x hx
      obtain ⟨ax, cx, rfl, _⟩ := own_slice hv2
      have hcx := cell_stays HI.out.2.2 (H1.out.2.1 j _ hv1)
      have q1 := (HI.out.2.2.block _ (heap_lt H1.out.2.2.1)).trans H1.out.2.2.1
      have x0 := fun y : Aft wr.heap.size wr => cell_stays y.h hcx
      have x1 := fun y : Aft wr.heap.size wr => (tr_cells ((y.h.block _ (heap_lt q1)).trans q1)).2.1
      have HS := Lib.hid (allF_succ (n := t.frm.length) hx)
      have HV := Lib.hid hv2
      have hle := allF_le t.frm.length P j
      have hsw := HI.out.2.2.size
      clear hx hv1 hv2 hcx q1
      by_cases he : x.length = t.frm.length
      · have hbe : ((x.length : Int) == (t.frm.length : Int)) = true := by rw [he]; simp
        rw [if_pos he] at HS
        have HE := Lib.hid he
        clear he
        go_wp2_with fail
        refine wp_region_aft mixed (by kernel_rfl) ?_
        repeat (go_big_quiet_step (fail))
        refine wpQuiet_nil ?_
        rintro _ ⟨y, rfl⟩
        have z0 := x0 y
        have z1 := x1 y
        have hby := HI.out.2.2.trans (y.h.mono hsw)
        obtain ⟨i0, hi0, hz0, hz1, hz2⟩ := info_parts infoO
        have hV1 := World.alloc_heap_new y.v (.cells #[.slice ax x.length cx] 26)
        obtain ⟨v', w', hrun, hnn, hgg, hor, _⟩ := append_keep (P := Try.prog) (w := y.v.alloc (.cells #[.slice ax x.length cx] 26)) W.heap.size 95 95 26 i0 _ 24 Try.underlying95 hi0 hz0 hz1 hz2 rfl _ _ _ ((own_below HI.out.1 y.h).alloc _) ⟨y.v.heap.size, 0, none⟩ (.slice ax x.length cx) (by rw [cell_of_heap hV1]; rfl) rfl (by simp [maxLen]; omega) (by omega) (by simp; have := hby.size; omega)
        obtain ⟨a', c', rfl, _⟩ := own_slice hnn
        have HRUN := Lib.hid hrun
        have HN : Hid (w'.ownsRow W.heap.size 26 1 (.slice a' (allF t.frm.length P (j + 1)).length c') (allF t.frm.length P (j + 1)).length (vs ++ [.slice ax x.length cx]) ∧ RowsOf W w1.heap.size (vs ++ [.slice ax x.length cx]) (allF t.frm.length P (j + 1)) ∧ Below W.heap.size W w') := by
          refine ⟨?_, ?_, ?_⟩
          · rw [HS.out, List.length_append]; exact hnn
          · rw [HS.out]; exact HI.out.2.1.add HV.out
          · exact (hby.alloc hby.size _).grown hgg (by simp; have := hby.size; omega) (fun k hk => (HI.out.1.lt k hk).1)
        have hlen : (allF t.frm.length P j).length + 1 = (allF t.frm.length P (j + 1)).length := by rw [HS.out, List.length_append]; rfl
        rw [hlen] at HRUN
        have HLEN := Lib.hid hlen
        clear hrun hnn hgg hor hV1 hby x0 x1 hlen hi0 hz0 hz1 hz2
        go_wp2_with (at_builtin; refine wpList_append_run rfl (.tmp 23) (.tmp 28) 95 rfl _ _ _ _ rfl rfl HRUN.out ?_)
        go_roundw
        case rel => exact ⟨j + 1, a', c', _, by omega, by go_num, rfl, HN.out⟩
        case measure => simp [intOf]; omega
      · have hbe : ((x.length : Int) == (t.frm.length : Int)) = false := by simp; omega
        rw [if_neg he, List.append_nil] at HS
        clear he
        go_wp2_with fail
        refine wp_region_aft mixed (by kernel_rfl) ?_
        repeat (go_big_quiet_step (fail))
        refine wpQuiet_nil ?_
        rintro _ ⟨y, rfl⟩
        go_wp2_with fail
        go_roundw
        case rel => exact ⟨j + 1, ao, co, vs, by omega, by go_num, by rw [HS.out], by rw [Hid, HS.out]; exact ⟨own_below HI.out.1 y.h, HI.out.2.1, HI.out.2.2.trans (y.h.mono hsw)⟩⟩
        case measure => simp [intOf]; omega
    · obtain rfl : j = P.length := by omega
      go_wp2_with fail
      go_ret
      obtain ⟨i1, i2, i3⟩ := HI.out
      have hs1 := HWS.out.1
      have hs2 := HWS.out.2
      refine ⟨_, rfl, ?_, H1.out.2.2.2.trans (i3.mono H1.out.2.2.2.size)⟩
      have hr2 : RowsAt wr w.heap.size (.slice ao (allF t.frm.length P P.length).length co) (allF t.frm.length P P.length) := ⟨vs, own_base i1 (by omega), i2.1, fun i x hx => by
        obtain ⟨vc, e1, e2⟩ := i2.2 i x hx
        exact ⟨vc, e1, own_base (own_below e2 i3) (by omega)⟩⟩
      rw [HT.out] at hr2 ⊢
      exact hr2
end Go.Proofs.Ytphefhpmbahagaa

namespace Go.Proofs.Ytphefhpmbahagaa
open Go.RowKit
set_option linter.unusedVariables false
set_option linter.unusedSimpArgs false

set_option maxRecDepth 100000 in
set_option maxHeartbeats 4000000 in
theorem rtours24 {t : Tr} {A : TrA} {w : World} (ht : IsTr w t A) (hs : t.Small) :
    Calls Try.prog 24 #[t.v A] w fun e w' => e = .returned (.tuple #[.int .i64 (toursE t).1, .int .i64 (toursE t).2.1, .int .i64 (toursE t).2.2]) ∧ Below w.heap.size w w' := by
  have hbw : Below w.heap.size w (w.alloc (.cells (t.cells A) 25)) := (Below.refl _ w).alloc (Nat.le_refl _) _
  have hq := World.alloc_heap_new w (.cells (t.cells A) 25)
  have HB := Lib.hid (And.intro hbw (And.intro hq (And.intro (ht.mono hbw) hs)))
  clear hbw hq ht hs
  go_enter Try.func24, Try.ntmps24
  go_upto_region 1 with fail
  revert HB
  generalize (w.alloc (.cells (t.cells A) 25)) = w1
  intro HB
  obtain ⟨k0, k1, k2, k3, k4⟩ := tr_cells HB.out.2.1
  go_wp2_with fail
  refine (rcheck50 HB.out.2.2.1 HB.out.2.2.2 true).mono ?_
  rintro e w2 ⟨rfl, hb2⟩
  have HB2 := Lib.hid hb2
  clear k0 k1 k2 k3 k4 hb2
  have HE : Hid (toursE t = if openE t true = 0 then (((t.cnt true (toursL t.frm.length).length : Nat) : Int), ((t.cnt false (toursL t.frm.length).length : Nat) : Int), (0 : Int)) else (0, 0, openE t true)) := rfl
  by_cases h0 : openE t true = 0
  · have HV := Lib.hid (fit_of_valid (openE_zero h0).1)
    rw [if_pos h0] at HE
    rw [h0]
    clear h0
    obtain ⟨k0, k1, k2, k3, k4⟩ := tr_cells ((HB2.out.block _ (heap_lt HB.out.2.1)).trans HB.out.2.1)
    go_wp2_with fail
    refine (all68 (w := w2) HV.out.n).mono ?_
    rintro e w3 ⟨v3, rfl, hr, hb3⟩
    obtain ⟨a3, c3, rfl, hl3⟩ := hr.lists
    have HT : Hid (∀ x ∈ toursL t.frm.length, x.length ≤ 16 ∧ ∀ v ∈ x, t.view v = true) := fun x hx => ⟨by have := (tour_mem hx).1; have := HV.out.n; omega, tour_view hx⟩
    have hln : (toursL t.frm.length).length ≤ 46656 := tours_len HV.out.n
    have HCS : Hid (∀ q k x, (toursL t.frm.length)[k]? = some x → t.cnt q (k + 1) = t.cnt q k + (if t.is q x then 1 else 0)) := fun q k x h => cnt_succ h
    have HCZ : Hid (t.cnt true 0 = 0 ∧ t.cnt false 0 = 0) := ⟨rfl, rfl⟩
    generalize toursL t.frm.length = L at *
    have HB3 := Lib.hid (And.intro (HB2.out.trans (hb3.mono HB2.out.size)) hl3)
    clear k0 k1 k2 k3 k4 hb3 hr hl3 HB2
    go_wp2_with fail
    go_loopw [6, 7, 9] (fun o1 o2 q wr => ∃ (j m1 m2 : Nat), j ≤ L.length ∧ q = .int .i64 (j : Int) ∧ o1 = .int .i64 (m1 : Int) ∧ o2 = .int .i64 (m2 : Int) ∧ m1 ≤ j ∧ m2 ≤ j ∧ Hid (t.cnt true j = m1 ∧ t.cnt false j = m2 ∧ Below w3.heap.size w3 wr)) (fun _ _ q _ => (L.length : Int) - intOf q |>.toNat)
    case atStart => exact ⟨0, 0, 0, by omega, by go_num, by go_num, by go_num, by omega, by omega, HCZ.out.1, HCZ.out.2, Below.refl _ _⟩
    case round =>
      obtain ⟨j, m1, m2, hj, rfl, rfl, rfl, hm1, hm2, HI⟩ := hrel
      by_cases hlt : j < L.length
      · have hx : L[j]? = some (L.getD j []) := by simp [hlt]
        have HX := Lib.hid hx
        have HVX := Lib.hid (HT.out _ (List.mem_of_getElem? hx))
        obtain ⟨b, off, rfl, ax, cx, hc, hi⟩ := (HB3.out.2.mono HI.out.2.2) j hlt
        generalize L.getD j [] = x at *
        have HBR := Lib.hid (HB3.out.1.trans (HI.out.2.2.mono HB3.out.1.size))
        have q1 := (HBR.out.block _ (heap_lt HB.out.2.1)).trans HB.out.2.1
        have HQ1 := Lib.hid q1
        have HIX := Lib.hid hi
        have HS1 := Lib.hid (HCS.out true j x hx)
        have HS2 := Lib.hid (HCS.out false j x hx)
        obtain ⟨k0, k1, k2, k3, k4⟩ := tr_cells q1
        have y0 := fun y : Aft wr.heap.size wr => cell_stays y.h k0
        have y1 := fun y : Aft wr.heap.size wr => cell_stays y.h k1
        have y2 := fun y : Aft wr.heap.size wr => cell_stays y.h k2
        have y3 := fun y : Aft wr.heap.size wr => cell_stays y.h k3
        have y4 := fun y : Aft wr.heap.size wr => cell_stays y.h k4
        have y5 := fun y : Aft wr.heap.size wr => cell_stays y.h hc
        have e1 : Hid (∀ y : Aft wr.heap.size wr, Calls Try.prog 51 #[t.v A, .slice ax x.length cx] y.v fun e w' => e = .returned (.bool (t.is true x)) ∧ Below y.v.heap.size y.v w') := fun y => rsure51 ((HB.out.2.2.1.mono HBR.out).mono y.h) HV.out HVX.out.1 HVX.out.2 (HIX.out.mono y.h)
        have HC := Lib.hid hc
        clear k0 k1 k2 k3 k4 q1 hi hx hc
        cases hs1 : t.is true x
        all_goals
          rw [hs1] at e1 HS1
          clear hs1
          go_wp2_with fail
          refine wp_region_aft mixed (by kernel_rfl) ?_
          repeat (go_big_quiet_step ((go_at_call 51; exact calls_aft (e1.out _))))
          refine wpQuiet_nil ?_
          rintro _ ⟨z, rfl⟩
          have hz := z.h
          revert hz
          generalize z.v = w5
          intro hz
          have HZ := Lib.hid (HI.out.2.2.trans (hz.mono HI.out.2.2.size))
          have HBR5 := Lib.hid (HBR.out.trans (hz.mono HBR.out.size))
          have HC5 := Lib.hid (cell_stays hz HC.out)
          have HIX5 := Lib.hid (HIX.out.mono hz)
          have q1 := (hz.block _ (heap_lt HQ1.out)).trans HQ1.out
          clear y0 y1 y2 y3 y4 y5 e1 hz
          obtain ⟨k0, k1, k2, k3, k4⟩ := tr_cells q1
          have y0 := fun y : Aft w5.heap.size w5 => cell_stays y.h k0
          have y1 := fun y : Aft w5.heap.size w5 => cell_stays y.h k1
          have y2 := fun y : Aft w5.heap.size w5 => cell_stays y.h k2
          have y3 := fun y : Aft w5.heap.size w5 => cell_stays y.h k3
          have y4 := fun y : Aft w5.heap.size w5 => cell_stays y.h k4
          have y5 := fun y : Aft w5.heap.size w5 => cell_stays y.h HC5.out
          have e2 : Hid (∀ y : Aft w5.heap.size w5, Calls Try.prog 52 #[t.v A, .slice ax x.length cx] y.v fun e w' => e = .returned (.bool (t.is false x)) ∧ Below y.v.heap.size y.v w') := fun y => rcan52 ((HB.out.2.2.1.mono HBR5.out).mono y.h) HV.out HVX.out.1 HVX.out.2 (HIX5.out.mono y.h)
          clear k0 k1 k2 k3 k4 q1
          cases hs2 : t.is false x
          all_goals
            rw [hs2] at e2 HS2
            clear hs2
            go_wp2_with fail
            refine wp_region_aft mixed (by kernel_rfl) ?_
            repeat (go_big_quiet_step ((go_at_call 52; exact calls_aft (e2.out _))))
            refine wpQuiet_nil ?_
            rintro _ ⟨z, rfl⟩
            have hz := z.h
            revert hz
            generalize z.v = w6
            intro hz
            have HZ6 := Lib.hid (HZ.out.trans (hz.mono HZ.out.size))
            clear y0 y1 y2 y3 y4 y5 e2 hz
            go_wp2_with fail
            go_roundw
            case rel =>
              have g1 := HS1.out
              have g2 := HS2.out
              rw [HI.out.1] at g1
              rw [HI.out.2.1] at g2
              simp only [if_true, Bool.false_eq_true, if_false, Nat.add_zero] at g1 g2
              exact ⟨j + 1, t.cnt true (j + 1), t.cnt false (j + 1), by omega, by go_num, by first | (rw [g1]; done) | (rw [g1]; go_num), by first | (rw [g2]; done) | (rw [g2]; go_num), by omega, by omega, rfl, rfl, HZ6.out⟩
            case measure => simp [intOf]; omega
      · obtain rfl : j = L.length := by omega
        go_wp2_with fail
        refine bodyPost_ret (results_tmp3 rfl _ _ _) rfl ?_
        have hs1 := HB3.out.1.size
        refine ⟨?_, HB.out.1.trans ((HB3.out.1.trans (HI.out.2.2.mono HB3.out.1.size)).mono HB.out.1.size)⟩
        rw [HE.out, HI.out.1, HI.out.2.1]
        rfl
  · have hb : (openE t true != 0) = true := by simpa using h0
    rw [if_neg h0] at HE
    clear h0
    go_wp2_with fail
    refine bodyPost_ret (results_tmp3 rfl _ _ _) rfl ?_
    exact ⟨by rw [HE.out]; rfl, HB.out.1.trans (HB2.out.mono HB.out.1.size)⟩
end Go.Proofs.Ytphefhpmbahagaa

namespace Go.Proofs.Ytphefhpmbahagaa
open Go.RowKit
set_option linter.unusedVariables false
set_option linter.unusedSimpArgs false

theorem index_ge : ∀ (l : List Int) (v : Int) (k : Nat), v ∈ l → (k : Int) ≤ indexFrom l v k
  | [], v, k, h => by cases h
  | x :: r, v, k, h => by
    show (k : Int) ≤ if x = v then (k : Int) else indexFrom r v (k + 1)
    by_cases e : x = v
    · rw [if_pos e]; exact Int.le_refl _
    · rw [if_neg e]
      have := index_ge r v (k + 1) (by rcases List.mem_cons.1 h with h | h; exact absurd h.symm e; exact h)
      omega
theorem comes_index : ∀ (l : List Int) (a b : Int) (k : Nat), a ∈ l → b ∈ l → a ≠ b → comesB l a b = decide (indexFrom l a k < indexFrom l b k)
  | [], a, b, k, h, _, _ => by cases h
  | x :: r, a, b, k, ha, hb, hab => by
    show (if x = a then true else if x = b then false else comesB r a b) = decide ((if x = a then (k : Int) else indexFrom r a (k + 1)) < (if x = b then (k : Int) else indexFrom r b (k + 1)))
    have mem : ∀ v, v ∈ x :: r → x ≠ v → v ∈ r := fun v h e => by rcases List.mem_cons.1 h with h | h; exact absurd h.symm e; exact h
    by_cases e1 : x = a
    · have e2 : x ≠ b := fun e => hab (e1.symm.trans e)
      rw [if_pos e1, if_pos e1, if_neg e2]
      have := index_ge r b (k + 1) (mem b hb e2)
      symm
      rw [decide_eq_true_iff]
      omega
    · rw [if_neg e1, if_neg e1]
      by_cases e2 : x = b
      · rw [if_pos e2, if_pos e2]
        have := index_ge r a (k + 1) (mem a ha e1)
        symm
        rw [decide_eq_false_iff_not]
        omega
      · rw [if_neg e2, if_neg e2]
        exact comes_index r a b (k + 1) (mem a ha e1) (mem b hb e2) hab
theorem comes_bef {t : Tr} {a b : Int} (ha : t.view a = true) (hb : t.view b = true) (hab : a ≠ b) {x : List Int} (hx : x ∈ toursL t.frm.length) : befB a b x = comesB x a b := by
  have hm : ∀ v, t.view v = true → v ∈ x := fun v hv => by
    obtain ⟨h1, h2, h3⟩ := tour_mem hx
    unfold Tr.view inR Tr.n at hv
    simp at hv
    have := (all_in t.frm.length x h3 h2).2 h1 v.toNat (by omega)
    rw [show ((v.toNat : Nat) : Int) = v by omega] at this
    exact this
  unfold befB indexL
  exact (comes_index x a b 0 (hm a ha) (hm b hb) hab).symm
set_option maxRecDepth 100000 in
set_option maxHeartbeats 600000 in
theorem rbefore30 {t : Tr} {A : TrA} {w : World} (ht : IsTr w t A) (hs : t.Small) (a b : Int) :
    Calls Try.prog 30 #[t.v A, .int .i64 a, .int .i64 b] w fun e w' => e = .returned (.tuple #[.int .i64 (beforeE t a b).1, .int .i64 (beforeE t a b).2]) ∧ Below w.heap.size w w' := by
  have hbw : Below w.heap.size w (w.alloc (.cells (t.cells A) 25)) := (Below.refl _ w).alloc (Nat.le_refl _) _
  have hq := World.alloc_heap_new w (.cells (t.cells A) 25)
  have hn1 : IntKind.i64.wrap ((t.frm.length : Int) - 1) = (t.frm.length : Int) - 1 := IntWalk.i64_in _ (by have := hs.frm; omega)
  have HB := Lib.hid (And.intro hbw (And.intro hq (And.intro (ht.mono hbw) hs)))
  have HE : Hid (beforeE t a b = if openE t (befOk t a b) = 0 then tellE (t.cntB a b true (toursL t.frm.length).length) (t.cntB a b false (toursL t.frm.length).length) else (0, openE t (befOk t a b))) := rfl
  clear hbw hq ht hs
  go_enter Try.func30, Try.ntmps30
  go_upto_region 1 with fail
  revert HB
  generalize (w.alloc (.cells (t.cells A) 25)) = w1
  intro HB
  obtain ⟨k0, k1, k2, k3, k4⟩ := tr_cells HB.out.2.1
  have y0 := fun y : Aft w1.heap.size w1 => cell_stays y.h k0
  have y1 := fun y : Aft w1.heap.size w1 => cell_stays y.h k1
  have y2 := fun y : Aft w1.heap.size w1 => cell_stays y.h k2
  have y3 := fun y : Aft w1.heap.size w1 => cell_stays y.h k3
  have y4 := fun y : Aft w1.heap.size w1 => cell_stays y.h k4
  have CC : Hid (∀ (n : Int) (v : Bool), t.view n = v → ∀ (y : Aft w1.heap.size w1), Calls Try.prog 77 #[.int .i64 n, .int .i64 0, .int .i64 ((t.frm.length : Int) - 1)] y.v fun e w' => e = .returned (.bool v) ∧ y.v = w') := fun n v h y => by subst h; exact rin77 n 0 ((t.frm.length : Int) - 1) y.v
  have e2 : Hid (∀ (ok : Bool) (y : Aft w1.heap.size w1), Calls Try.prog 50 #[t.v A, .bool ok] y.v fun e w' => e = .returned (.int .i64 (openE t ok)) ∧ Below y.v.heap.size y.v w') := fun ok y => rcheck50 (HB.out.2.2.1.mono y.h) HB.out.2.2.2 _
  clear k0 k1 k2 k3 k4
  cases hva : t.view a
  · have HK : befOk t a b = false := by unfold befOk; rw [hva]; rfl
    refine wp_region_aft mixed (by kernel_rfl) ?_
    repeat (go_big_quiet_step (first | (go_at_call 77; exact calls_aft_same (CC.out _ _ (by assumption) _)) | (go_at_call 50; exact calls_aft (e2.out _ _))))
    refine wpQuiet_nil ?_
    rintro _ ⟨z, rfl⟩
    have hz := z.h
    revert hz
    generalize z.v = w2
    intro hz
    have HB2 := Lib.hid hz
    clear y0 y1 y2 y3 y4 e2 CC hz
    have h0 : (openE t false != 0) = true := by
      have : openE t false ≠ 0 := fun e => by have := (openE_zero e).2; cases this
      simpa using this
    rw [HK, if_neg (by simpa using h0)] at HE
    go_wp2_with fail
    refine bodyPost_ret (results_tmp2 rfl _ _ _) rfl ?_
    exact ⟨by rw [HE.out]; rfl, HB.out.1.trans (HB2.out.mono HB.out.1.size)⟩
  · cases hvb : t.view b
    · have HK : befOk t a b = false := by unfold befOk; rw [hva, hvb]; rfl
      refine wp_region_aft mixed (by kernel_rfl) ?_
      repeat (go_big_quiet_step (first | (go_at_call 77; exact calls_aft_same (CC.out _ _ (by assumption) _)) | (go_at_call 50; exact calls_aft (e2.out _ _))))
      refine wpQuiet_nil ?_
      rintro _ ⟨z, rfl⟩
      have hz := z.h
      revert hz
      generalize z.v = w2
      intro hz
      have HB2 := Lib.hid hz
      clear y0 y1 y2 y3 y4 e2 CC hz
      have h0 : (openE t false != 0) = true := by
        have : openE t false ≠ 0 := fun e => by have := (openE_zero e).2; cases this
        simpa using this
      rw [HK, if_neg (by simpa using h0)] at HE
      go_wp2_with fail
      refine bodyPost_ret (results_tmp2 rfl _ _ _) rfl ?_
      exact ⟨by rw [HE.out]; rfl, HB.out.1.trans (HB2.out.mono HB.out.1.size)⟩
    · by_cases hab : a = b
      · have HK : befOk t a b = false := by unfold befOk; rw [hab]; simp
        have hne : (a != b) = false := by simpa using hab
        refine wp_region_aft mixed (by kernel_rfl) ?_
        repeat (go_big_quiet_step (first | (go_at_call 77; exact calls_aft_same (CC.out _ _ (by assumption) _)) | (go_at_call 50; exact calls_aft (e2.out _ _))))
        refine wpQuiet_nil ?_
        rintro _ ⟨z, rfl⟩
        have hz := z.h
        revert hz
        generalize z.v = w2
        intro hz
        have HB2 := Lib.hid hz
        clear y0 y1 y2 y3 y4 e2 CC hz
        have h0 : (openE t false != 0) = true := by
          have : openE t false ≠ 0 := fun e => by have := (openE_zero e).2; cases this
          simpa using this
        rw [HK, if_neg (by simpa using h0)] at HE
        go_wp2_with fail
        refine bodyPost_ret (results_tmp2 rfl _ _ _) rfl ?_
        exact ⟨by rw [HE.out]; rfl, HB.out.1.trans (HB2.out.mono HB.out.1.size)⟩
      · have HK : befOk t a b = true := by unfold befOk; rw [hva, hvb]; simpa using hab
        have hne : (a != b) = true := by simpa using hab
        refine wp_region_aft mixed (by kernel_rfl) ?_
        repeat (go_big_quiet_step (first | (go_at_call 77; exact calls_aft_same (CC.out _ _ (by assumption) _)) | (go_at_call 50; exact calls_aft (e2.out _ _))))
        refine wpQuiet_nil ?_
        rintro _ ⟨z, rfl⟩
        have hz := z.h
        revert hz
        generalize z.v = w2
        intro hz
        have HB2 := Lib.hid hz
        clear y0 y1 y2 y3 y4 e2 CC hz
        rw [HK] at HE
        by_cases h0 : openE t true = 0
        · have HV := Lib.hid (fit_of_valid (openE_zero h0).1)
          rw [if_pos h0] at HE
          rw [h0]
          clear h0
          obtain ⟨k0, k1, k2, k3, k4⟩ := tr_cells ((HB2.out.block _ (heap_lt HB.out.2.1)).trans HB.out.2.1)
          go_wp2_with fail
          refine (all68 (w := w2) HV.out.n).mono ?_
          rintro e w3 ⟨v3, rfl, hr, hb3⟩
          obtain ⟨a3, c3, rfl, hl3⟩ := hr.lists
          have HT : Hid (∀ x ∈ toursL t.frm.length, x.length ≤ 16 ∧ ∀ v ∈ x, t.view v = true) := fun x hx => ⟨by have := (tour_mem hx).1; have := HV.out.n; omega, tour_view hx⟩
          have hln : (toursL t.frm.length).length ≤ 46656 := tours_len HV.out.n
          have HCS : Hid (∀ p k x, (toursL t.frm.length)[k]? = some x → t.cntB a b p (k + 1) = t.cntB a b p k + (if t.is true x && (comesB x a b == p) then 1 else 0)) := fun p k x h => by
            rw [← comes_bef hva hvb hab (List.mem_of_getElem? h)]
            exact cntB_succ h
          have HCZ : Hid (t.cntB a b true 0 = 0 ∧ t.cntB a b false 0 = 0) := ⟨rfl, rfl⟩
          clear hva hvb hab hne
          generalize toursL t.frm.length = L at *
          have HB3 := Lib.hid (And.intro (HB2.out.trans (hb3.mono HB2.out.size)) hl3)
          clear k0 k1 k2 k3 k4 hb3 hr hl3 HB2
          go_wp2_with fail
          go_loopw [10, 11, 12] (fun o1 o2 q wr => ∃ (j m1 m2 : Nat), j ≤ L.length ∧ q = .int .i64 (j : Int) ∧ o1 = .int .i64 (m1 : Int) ∧ o2 = .int .i64 (m2 : Int) ∧ m1 ≤ j ∧ m2 ≤ j ∧ Hid (t.cntB a b true j = m1 ∧ t.cntB a b false j = m2 ∧ Below w3.heap.size w3 wr)) (fun _ _ q _ => (L.length : Int) - intOf q |>.toNat)
          case atStart => exact ⟨0, 0, 0, by omega, by go_num, by go_num, by go_num, by omega, by omega, HCZ.out.1, HCZ.out.2, Below.refl _ _⟩
          case round =>
            obtain ⟨j, m1, m2, hj, rfl, rfl, rfl, hm1, hm2, HI⟩ := hrel
            by_cases hlt : j < L.length
            · have hx : L[j]? = some (L.getD j []) := by simp [hlt]
              have HX := Lib.hid hx
              have HVX := Lib.hid (HT.out _ (List.mem_of_getElem? hx))
              obtain ⟨bl, off, rfl, ax, cx, hc, hi⟩ := (HB3.out.2.mono HI.out.2.2) j hlt
              generalize L.getD j [] = x at *
              have HBR := Lib.hid (HB3.out.1.trans (HI.out.2.2.mono HB3.out.1.size))
              have q1 := (HBR.out.block _ (heap_lt HB.out.2.1)).trans HB.out.2.1
              have HQ1 := Lib.hid q1
              have HIX := Lib.hid hi
              have HS1 := Lib.hid (HCS.out true j x hx)
              have HS2 := Lib.hid (HCS.out false j x hx)
              obtain ⟨k0, k1, k2, k3, k4⟩ := tr_cells q1
              have y0 := fun y : Aft wr.heap.size wr => cell_stays y.h k0
              have y1 := fun y : Aft wr.heap.size wr => cell_stays y.h k1
              have y2 := fun y : Aft wr.heap.size wr => cell_stays y.h k2
              have y3 := fun y : Aft wr.heap.size wr => cell_stays y.h k3
              have y4 := fun y : Aft wr.heap.size wr => cell_stays y.h k4
              have y5 := fun y : Aft wr.heap.size wr => cell_stays y.h hc
              have e1 : Hid (∀ y : Aft wr.heap.size wr, Calls Try.prog 51 #[t.v A, .slice ax x.length cx] y.v fun e w' => e = .returned (.bool (t.is true x)) ∧ Below y.v.heap.size y.v w') := fun y => rsure51 ((HB.out.2.2.1.mono HBR.out).mono y.h) HV.out HVX.out.1 HVX.out.2 (HIX.out.mono y.h)
              have HC := Lib.hid hc
              clear k0 k1 k2 k3 k4 q1 hi hx hc
              have hxl : x.length ≤ 1000 := by have := HVX.out.1; omega
              have e3 : Hid (∀ y : Aft wr.heap.size wr, Calls Try.prog 39 #[.slice ax x.length cx, .int .i64 a, .int .i64 b] y.v fun e w' => e = .returned (.bool (comesB x a b)) ∧ y.v = w') := fun y => comes39 hxl (HIX.out.mono y.h)
              cases hs1 : t.is true x
              · have HSV := hs1
                rw [hs1] at e1 HS1 HS2
                clear hs1
                go_wp2_with fail
                refine wp_region_aft mixed (by kernel_rfl) ?_
                repeat (go_big_quiet_step (first | (go_at_call 51; exact calls_aft (e1.out _)) | (go_at_call 39; exact calls_aft_same (e3.out _))))
                refine wpQuiet_nil ?_
                rintro _ ⟨z, rfl⟩
                have hz := z.h
                revert hz
                generalize z.v = w5
                intro hz
                have HZ := Lib.hid (HI.out.2.2.trans (hz.mono HI.out.2.2.size))
                have HBR5 := Lib.hid (HBR.out.trans (hz.mono HBR.out.size))
                have HC5 := Lib.hid (cell_stays hz HC.out)
                have HIX5 := Lib.hid (HIX.out.mono hz)
                have q1 := (hz.block _ (heap_lt HQ1.out)).trans HQ1.out
                clear y0 y1 y2 y3 y4 y5 e1 e3 hz
                obtain ⟨k0, k1, k2, k3, k4⟩ := tr_cells q1
                have y0 := fun y : Aft w5.heap.size w5 => cell_stays y.h k0
                have y1 := fun y : Aft w5.heap.size w5 => cell_stays y.h k1
                have y2 := fun y : Aft w5.heap.size w5 => cell_stays y.h k2
                have y3 := fun y : Aft w5.heap.size w5 => cell_stays y.h k3
                have y4 := fun y : Aft w5.heap.size w5 => cell_stays y.h k4
                have y5 := fun y : Aft w5.heap.size w5 => cell_stays y.h HC5.out
                have e4 : Hid (∀ y : Aft w5.heap.size w5, Calls Try.prog 51 #[t.v A, .slice ax x.length cx] y.v fun e w' => e = .returned (.bool (t.is true x)) ∧ Below y.v.heap.size y.v w') := fun y => rsure51 ((HB.out.2.2.1.mono HBR5.out).mono y.h) HV.out HVX.out.1 HVX.out.2 (HIX5.out.mono y.h)
                clear k0 k1 k2 k3 k4 q1
                rw [HSV] at e4
                clear HSV
                go_wp2_with fail
                refine wp_region_aft mixed (by kernel_rfl) ?_
                repeat (go_big_quiet_step ((go_at_call 51; exact calls_aft (e4.out _))))
                refine wpQuiet_nil ?_
                rintro _ ⟨z, rfl⟩
                have hz := z.h
                revert hz
                generalize z.v = w6
                intro hz
                have HZ6 := Lib.hid (HZ.out.trans (hz.mono HZ.out.size))
                clear y0 y1 y2 y3 y4 y5 e4 hz
                go_wp2_with fail
                go_roundw
                case rel =>
                  have g1 := HS1.out
                  have g2 := HS2.out
                  rw [HI.out.1] at g1
                  rw [HI.out.2.1] at g2
                  simp at g1 g2
                  exact ⟨j + 1, t.cntB a b true (j + 1), t.cntB a b false (j + 1), by omega, by go_num, by first | (rw [g1]; done) | (rw [g1]; go_num), by first | (rw [g2]; done) | (rw [g2]; go_num), by omega, by omega, rfl, rfl, HZ6.out⟩
                case measure => simp [intOf]; omega
              · have HSV := hs1
                rw [hs1] at e1 HS1 HS2
                clear hs1
                cases hc1 : comesB x a b
                · rw [hc1] at e3 HS1 HS2
                  clear hc1
                  go_wp2_with fail
                  refine wp_region_aft mixed (by kernel_rfl) ?_
                  repeat (go_big_quiet_step (first | (go_at_call 51; exact calls_aft (e1.out _)) | (go_at_call 39; exact calls_aft_same (e3.out _))))
                  refine wpQuiet_nil ?_
                  rintro _ ⟨z, rfl⟩
                  have hz := z.h
                  revert hz
                  generalize z.v = w5
                  intro hz
                  have HZ := Lib.hid (HI.out.2.2.trans (hz.mono HI.out.2.2.size))
                  have HBR5 := Lib.hid (HBR.out.trans (hz.mono HBR.out.size))
                  have HC5 := Lib.hid (cell_stays hz HC.out)
                  have HIX5 := Lib.hid (HIX.out.mono hz)
                  have q1 := (hz.block _ (heap_lt HQ1.out)).trans HQ1.out
                  clear y0 y1 y2 y3 y4 y5 e1 e3 hz
                  obtain ⟨k0, k1, k2, k3, k4⟩ := tr_cells q1
                  have y0 := fun y : Aft w5.heap.size w5 => cell_stays y.h k0
                  have y1 := fun y : Aft w5.heap.size w5 => cell_stays y.h k1
                  have y2 := fun y : Aft w5.heap.size w5 => cell_stays y.h k2
                  have y3 := fun y : Aft w5.heap.size w5 => cell_stays y.h k3
                  have y4 := fun y : Aft w5.heap.size w5 => cell_stays y.h k4
                  have y5 := fun y : Aft w5.heap.size w5 => cell_stays y.h HC5.out
                  have e4 : Hid (∀ y : Aft w5.heap.size w5, Calls Try.prog 51 #[t.v A, .slice ax x.length cx] y.v fun e w' => e = .returned (.bool (t.is true x)) ∧ Below y.v.heap.size y.v w') := fun y => rsure51 ((HB.out.2.2.1.mono HBR5.out).mono y.h) HV.out HVX.out.1 HVX.out.2 (HIX5.out.mono y.h)
                  clear k0 k1 k2 k3 k4 q1
                  rw [HSV] at e4
                  clear HSV
                  go_wp2_with fail
                  refine wp_region_aft mixed (by kernel_rfl) ?_
                  repeat (go_big_quiet_step ((go_at_call 51; exact calls_aft (e4.out _))))
                  refine wpQuiet_nil ?_
                  rintro _ ⟨z, rfl⟩
                  have hz := z.h
                  revert hz
                  generalize z.v = w6
                  intro hz
                  have HZ6 := Lib.hid (HZ.out.trans (hz.mono HZ.out.size))
                  clear y0 y1 y2 y3 y4 y5 e4 hz
                  go_wp2_with fail
                  go_roundw
                  case rel =>
                    have g1 := HS1.out
                    have g2 := HS2.out
                    rw [HI.out.1] at g1
                    rw [HI.out.2.1] at g2
                    simp at g1 g2
                    exact ⟨j + 1, t.cntB a b true (j + 1), t.cntB a b false (j + 1), by omega, by go_num, by first | (rw [g1]; done) | (rw [g1]; go_num), by first | (rw [g2]; done) | (rw [g2]; go_num), by omega, by omega, rfl, rfl, HZ6.out⟩
                  case measure => simp [intOf]; omega
                · rw [hc1] at e3 HS1 HS2
                  clear hc1 HSV
                  go_wp2_with fail
                  refine wp_region_aft mixed (by kernel_rfl) ?_
                  repeat (go_big_quiet_step (first | (go_at_call 51; exact calls_aft (e1.out _)) | (go_at_call 39; exact calls_aft_same (e3.out _))))
                  refine wpQuiet_nil ?_
                  rintro _ ⟨z, rfl⟩
                  have hz := z.h
                  revert hz
                  generalize z.v = w5
                  intro hz
                  have HZ := Lib.hid (HI.out.2.2.trans (hz.mono HI.out.2.2.size))
                  clear y0 y1 y2 y3 y4 y5 e1 e3 hz
                  go_wp2_with fail
                  go_roundw
                  case rel =>
                    have g1 := HS1.out
                    have g2 := HS2.out
                    rw [HI.out.1] at g1
                    rw [HI.out.2.1] at g2
                    simp at g1 g2
                    exact ⟨j + 1, t.cntB a b true (j + 1), t.cntB a b false (j + 1), by omega, by go_num, by first | (rw [g1]; done) | (rw [g1]; go_num), by first | (rw [g2]; done) | (rw [g2]; go_num), by omega, by omega, rfl, rfl, HZ.out⟩
                  case measure => simp [intOf]; omega
            · obtain rfl : j = L.length := by omega
              have HTL : Hid (beforeE t a b = tellE m1 m2) := by rw [Hid, HE.out, HI.out.1, HI.out.2.1]
              have HBE := Lib.hid (HB.out.1.trans ((HB3.out.1.trans (HI.out.2.2.mono HB3.out.1.size)).mono HB.out.1.size))
              by_cases z1 : m1 = 0
              · by_cases z2 : m2 = 0
                · have HR : Hid (beforeE t a b = (0, 4)) := by rw [Hid, HTL.out, z1, z2]; rfl
                  subst z1 z2
                  go_wp2_with fail
                  refine bodyPost_ret (results_tmp2 rfl _ _ _) rfl ?_
                  exact ⟨by rw [HR.out]; rfl, HBE.out⟩
                · have HR : Hid (beforeE t a b = (0, 0)) := by
                    rw [Hid, HTL.out, z1]
                    unfold tellE
                    rw [if_neg (by omega), if_neg z2, if_pos rfl]
                  subst z1
                  go_wp2_with fail
                  refine bodyPost_ret (results_tmp2 rfl _ _ _) rfl ?_
                  exact ⟨by rw [HR.out]; rfl, HBE.out⟩
              · by_cases z2 : m2 = 0
                · have HR : Hid (beforeE t a b = (2, 0)) := by
                    rw [Hid, HTL.out, z2]
                    unfold tellE
                    rw [if_neg (by omega), if_pos rfl]
                  subst z2
                  go_wp2_with fail
                  refine bodyPost_ret (results_tmp2 rfl _ _ _) rfl ?_
                  exact ⟨by rw [HR.out]; rfl, HBE.out⟩
                · have HR : Hid (beforeE t a b = (1, 0)) := by
                    rw [Hid, HTL.out]
                    unfold tellE
                    rw [if_neg (by omega), if_neg z2, if_neg z1]
                  go_wp2_with fail
                  refine bodyPost_ret (results_tmp2 rfl _ _ _) rfl ?_
                  exact ⟨by rw [HR.out]; rfl, HBE.out⟩
        · have hb : (openE t true != 0) = true := by simpa using h0
          rw [if_neg h0] at HE
          clear h0
          go_wp2_with fail
          refine bodyPost_ret (results_tmp2 rfl _ _ _) rfl ?_
          exact ⟨by rw [HE.out]; rfl, HB.out.1.trans (HB2.out.mono HB.out.1.size)⟩
end Go.Proofs.Ytphefhpmbahagaa

namespace Go.Proofs.Ytphefhpmbahagaa
open Go.RowKit
set_option linter.unusedVariables false
set_option linter.unusedSimpArgs false

/-- The best so far: the first of those that are sure and take the least time. -/
def shF (t : Tr) (b : Option (List Int)) (x : List Int) : Option (List Int) :=
  if t.is true x then (match b with | none => some x | some y => if t.takes x < t.takes y then some x else some y) else b
def shR (t : Tr) (j : Nat) : Option (List Int) := ((toursL t.frm.length).take j).foldl (shF t) none
theorem shR_succ {t : Tr} {j : Nat} {x : List Int} (h : (toursL t.frm.length)[j]? = some x) : shR t (j + 1) = shF t (shR t j) x := by
  unfold shR
  rw [List.take_add_one, h, List.foldl_append]
  rfl
def rshortE (t : Tr) : List Int × Int := if openE t true = 0 then (match shR t (toursL t.frm.length).length with | none => ([], 4) | some b => (b, 0)) else ([], openE t true)
set_option maxRecDepth 100000 in
set_option maxHeartbeats 1000000 in
theorem rshort26 {t : Tr} {A : TrA} {w : World} (ht : IsTr w t A) (hs : t.Small) :
    Calls Try.prog 26 #[t.v A] w fun e w' => ∃ (o : List Int) (a : Option Addr) (c : Nat), e = .returned (.tuple #[.slice a o.length c, .int .i64 (rshortE t).2]) ∧ o = (rshortE t).1 ∧ IsInts w' a o ∧ Below w.heap.size w w' := by
  have hbw : Below w.heap.size w (w.alloc (.cells (t.cells A) 25)) := (Below.refl _ w).alloc (Nat.le_refl _) _
  have hq := World.alloc_heap_new w (.cells (t.cells A) 25)
  have HB := Lib.hid (And.intro hbw (And.intro hq (And.intro (ht.mono hbw) hs)))
  clear hbw hq ht hs
  go_enter Try.func26, Try.ntmps26
  go_upto_region 1 with fail
  revert HB
  generalize (w.alloc (.cells (t.cells A) 25)) = w1
  intro HB
  obtain ⟨k0, k1, k2, k3, k4⟩ := tr_cells HB.out.2.1
  go_wp2_with fail
  refine (rcheck50 HB.out.2.2.1 HB.out.2.2.2 true).mono ?_
  rintro e w2 ⟨rfl, hb2⟩
  have HB2 := Lib.hid hb2
  clear k0 k1 k2 k3 k4 hb2
  have HE : Hid (rshortE t = if openE t true = 0 then (match shR t (toursL t.frm.length).length with | none => ([], 4) | some b => (b, 0)) else ([], openE t true)) := rfl
  by_cases h0 : openE t true = 0
  · have HV := Lib.hid (fit_of_valid (openE_zero h0).1)
    rw [if_pos h0] at HE
    rw [h0]
    clear h0
    obtain ⟨k0, k1, k2, k3, k4⟩ := tr_cells ((HB2.out.block _ (heap_lt HB.out.2.1)).trans HB.out.2.1)
    go_wp2_with fail
    refine (all68 (w := w2) HV.out.n).mono ?_
    rintro e w3 ⟨v3, rfl, hr, hb3⟩
    obtain ⟨a3, c3, rfl, hl3⟩ := hr.lists
    have HT : Hid (∀ x ∈ toursL t.frm.length, x.length ≤ 16 ∧ ∀ v ∈ x, t.view v = true) := fun x hx => ⟨by have := (tour_mem hx).1; have := HV.out.n; omega, tour_view hx⟩
    have hln : (toursL t.frm.length).length ≤ 46656 := tours_len HV.out.n
    have HCS : Hid (∀ k x, (toursL t.frm.length)[k]? = some x → shR t (k + 1) = shF t (shR t k) x) := fun k x h => shR_succ h
    have HCZ : Hid (shR t 0 = none) := rfl
    generalize toursL t.frm.length = L at *
    have HB3 := Lib.hid (And.intro (HB2.out.trans (hb3.mono HB2.out.size)) hl3)
    clear k0 k1 k2 k3 k4 hb3 hr hl3 HB2
    go_wp2_with fail
    go_loopw [6, 7, 8] (fun o1 o2 q wr => ∃ (j : Nat) (f : Bool) (bst : List Int) (ab : Option Addr) (cb : Nat), j ≤ L.length ∧ q = .int .i64 (j : Int) ∧ o1 = .slice ab bst.length cb ∧ o2 = .bool f ∧ Hid (shR t j = (if f then some bst else none) ∧ (bst.length ≤ 16 ∧ ∀ v ∈ bst, t.view v = true) ∧ IsInts w3 ab bst ∧ Below w3.heap.size w3 wr)) (fun _ _ q _ => (L.length : Int) - intOf q |>.toNat)
    case atStart => exact ⟨0, false, [], none, 0, by omega, by go_num, rfl, rfl, HCZ.out, ⟨by simp, fun v hv => by cases hv⟩, fun i hi => by simp at hi, Below.refl _ _⟩
    case round =>
      obtain ⟨j, f, bst, ab, cb, hj, rfl, rfl, rfl, HI⟩ := hrel
      by_cases hlt : j < L.length
      · have hx : L[j]? = some (L.getD j []) := by simp [hlt]
        have HVX := Lib.hid (HT.out _ (List.mem_of_getElem? hx))
        have HI3 := Lib.hid (HB3.out.2 j hlt)
        obtain ⟨bl, off, rfl, ax, cx, hc, hi⟩ := (HB3.out.2.mono HI.out.2.2.2) j hlt
        have HX3 : Hid (IsInts w3 ax (L.getD j [])) := by
          obtain ⟨bl', off', e, ax', cx', hc', hi'⟩ := HI3.out
          cases e
          have := (cell_stays HI.out.2.2.2 hc').symm.trans hc
          cases this
          exact hi'
        generalize L.getD j [] = x at *
        have HBR := Lib.hid (HB3.out.1.trans (HI.out.2.2.2.mono HB3.out.1.size))
        have q1 := (HBR.out.block _ (heap_lt HB.out.2.1)).trans HB.out.2.1
        have HS1 := Lib.hid (HCS.out j x hx)
        obtain ⟨k0, k1, k2, k3, k4⟩ := tr_cells q1
        have y0 := fun y : Aft wr.heap.size wr => cell_stays y.h k0
        have y1 := fun y : Aft wr.heap.size wr => cell_stays y.h k1
        have y2 := fun y : Aft wr.heap.size wr => cell_stays y.h k2
        have y3 := fun y : Aft wr.heap.size wr => cell_stays y.h k3
        have y4 := fun y : Aft wr.heap.size wr => cell_stays y.h k4
        have y5 := fun y : Aft wr.heap.size wr => cell_stays y.h hc
        have e1 : Hid (∀ y : Aft wr.heap.size wr, Calls Try.prog 51 #[t.v A, .slice ax x.length cx] y.v fun e w' => e = .returned (.bool (t.is true x)) ∧ Below y.v.heap.size y.v w') := fun y => rsure51 ((HB.out.2.2.1.mono HBR.out).mono y.h) HV.out HVX.out.1 HVX.out.2 ((HX3.out.mono HI.out.2.2.2).mono y.h)
        have CC : Hid (∀ (a' : Option Addr) (l : List Int) (c' : Nat), Hid (l.length ≤ 16 ∧ (∀ v ∈ l, t.view v = true) ∧ IsInts w3 a' l) → ∀ y : Aft wr.heap.size wr, Calls Try.prog 42 #[t.v A, .slice a' l.length c'] y.v fun e w' => e = .returned (.int .i64 (t.takes l)) ∧ Below y.v.heap.size y.v w') := fun a' l c' h y => takes42 ((HB.out.2.2.1.mono HBR.out).mono y.h) HV.out h.out.1 h.out.2.1 ((h.out.2.2.mono HI.out.2.2.2).mono y.h)
        have G1 : Hid (x.length ≤ 16 ∧ (∀ v ∈ x, t.view v = true) ∧ IsInts w3 ax x) := ⟨HVX.out.1, HVX.out.2, HX3.out⟩
        have G2 : Hid (bst.length ≤ 16 ∧ (∀ v ∈ bst, t.view v = true) ∧ IsInts w3 ab bst) := ⟨HI.out.2.1.1, HI.out.2.1.2, HI.out.2.2.1⟩
        have HC := Lib.hid hc
        clear k0 k1 k2 k3 k4 q1 hi hx hc HI3
        cases hs1 : t.is true x
        · have HSV := Lib.hid hs1
          rw [hs1] at e1
          clear hs1
          cases f
          · go_wp2_with fail
            refine wp_region_aft mixed (by kernel_rfl) ?_
            repeat (go_big_quiet_step (first | (go_at_call 51; exact calls_aft (e1.out _)) | (go_at_call 42; exact calls_aft (CC.out _ _ _ (by assumption) _))))
            refine wpQuiet_nil ?_
            rintro _ ⟨z, rfl⟩
            have z5 := y5 z
            have hz := z.h
            revert hz z5
            generalize z.v = w5
            intro z5 hz
            have HZ := Lib.hid (HI.out.2.2.2.trans (hz.mono HI.out.2.2.2.size))
            clear y0 y1 y2 y3 y4 y5 e1 CC hz
            go_wp2_with fail
            go_roundw
            case rel => exact ⟨j + 1, false, bst, ab, cb, by omega, by go_num, rfl, rfl, by rw [HS1.out, HI.out.1]; (unfold shF; rw [HSV.out]; rfl), HI.out.2.1, HI.out.2.2.1, HZ.out⟩
            case measure => simp [intOf]; omega
          · go_wp2_with fail
            refine wp_region_aft mixed (by kernel_rfl) ?_
            repeat (go_big_quiet_step (first | (go_at_call 51; exact calls_aft (e1.out _)) | (go_at_call 42; exact calls_aft (CC.out _ _ _ (by assumption) _))))
            refine wpQuiet_nil ?_
            rintro _ ⟨z, rfl⟩
            have z5 := y5 z
            have hz := z.h
            revert hz z5
            generalize z.v = w5
            intro z5 hz
            have HZ := Lib.hid (HI.out.2.2.2.trans (hz.mono HI.out.2.2.2.size))
            clear y0 y1 y2 y3 y4 y5 e1 CC hz
            go_wp2_with fail
            go_roundw
            case rel => exact ⟨j + 1, true, bst, ab, cb, by omega, by go_num, rfl, rfl, by rw [HS1.out, HI.out.1]; (unfold shF; rw [HSV.out]; rfl), HI.out.2.1, HI.out.2.2.1, HZ.out⟩
            case measure => simp [intOf]; omega
        · have HSV := Lib.hid hs1
          rw [hs1] at e1
          clear hs1
          cases f
          · go_wp2_with fail
            refine wp_region_aft mixed (by kernel_rfl) ?_
            repeat (go_big_quiet_step (first | (go_at_call 51; exact calls_aft (e1.out _)) | (go_at_call 42; exact calls_aft (CC.out _ _ _ (by assumption) _))))
            refine wpQuiet_nil ?_
            rintro _ ⟨z, rfl⟩
            have z5 := y5 z
            have hz := z.h
            revert hz z5
            generalize z.v = w5
            intro z5 hz
            have HZ := Lib.hid (HI.out.2.2.2.trans (hz.mono HI.out.2.2.2.size))
            clear y0 y1 y2 y3 y4 y5 e1 CC hz
            go_wp2_with fail
            go_roundw
            case rel => exact ⟨j + 1, true, x, ax, cx, by omega, by go_num, rfl, rfl, by rw [HS1.out, HI.out.1]; (unfold shF; rw [HSV.out]; rfl), ⟨G1.out.1, G1.out.2.1⟩, HX3.out, HZ.out⟩
            case measure => simp [intOf]; omega
          · by_cases hlt2 : t.takes x < t.takes bst
            · have HLT := Lib.hid hlt2
              go_wp2_with fail
              refine wp_region_aft mixed (by kernel_rfl) ?_
              repeat (go_big_quiet_step (first | (go_at_call 51; exact calls_aft (e1.out _)) | (go_at_call 42; exact calls_aft (CC.out _ _ _ (by assumption) _))))
              refine wpQuiet_nil ?_
              rintro _ ⟨z, rfl⟩
              have z5 := y5 z
              have hz := z.h
              revert hz z5
              generalize z.v = w5
              intro z5 hz
              have HZ := Lib.hid (HI.out.2.2.2.trans (hz.mono HI.out.2.2.2.size))
              clear y0 y1 y2 y3 y4 y5 e1 CC hz
              go_wp2_with fail
              go_roundw
              case rel => exact ⟨j + 1, true, x, ax, cx, by omega, by go_num, rfl, rfl, by rw [HS1.out, HI.out.1]; (unfold shF; rw [HSV.out]; simp only [if_true]; rw [if_pos HLT.out]), ⟨G1.out.1, G1.out.2.1⟩, HX3.out, HZ.out⟩
              case measure => simp [intOf]; omega
            · have HLT := Lib.hid hlt2
              go_wp2_with fail
              refine wp_region_aft mixed (by kernel_rfl) ?_
              repeat (go_big_quiet_step (first | (go_at_call 51; exact calls_aft (e1.out _)) | (go_at_call 42; exact calls_aft (CC.out _ _ _ (by assumption) _))))
              refine wpQuiet_nil ?_
              rintro _ ⟨z, rfl⟩
              have z5 := y5 z
              have hz := z.h
              revert hz z5
              generalize z.v = w5
              intro z5 hz
              have HZ := Lib.hid (HI.out.2.2.2.trans (hz.mono HI.out.2.2.2.size))
              clear y0 y1 y2 y3 y4 y5 e1 CC hz
              go_wp2_with fail
              go_roundw
              case rel => exact ⟨j + 1, true, bst, ab, cb, by omega, by go_num, rfl, rfl, by rw [HS1.out, HI.out.1]; (unfold shF; rw [HSV.out]; simp only [if_true]; rw [if_neg (by have := HLT.out; omega)]), HI.out.2.1, HI.out.2.2.1, HZ.out⟩
              case measure => simp [intOf]; omega
      · obtain rfl : j = L.length := by omega
        have HBE := Lib.hid (HB.out.1.trans ((HB3.out.1.trans (HI.out.2.2.2.mono HB3.out.1.size)).mono HB.out.1.size))
        cases f
        · have HR : Hid (rshortE t = ([], 4)) := by rw [Hid, HE.out, HI.out.1]; rfl
          go_wp2_with fail
          refine bodyPost_ret (results_tmp2 rfl _ _ _) rfl ?_
          exact ⟨[], none, 0, by rw [HR.out]; rfl, by rw [HR.out], fun i hi => by simp at hi, HBE.out⟩
        · have HR : Hid (rshortE t = (bst, 0)) := by rw [Hid, HE.out, HI.out.1]; rfl
          go_wp2_with fail
          refine bodyPost_ret (results_tmp2 rfl _ _ _) rfl ?_
          first | exact ⟨bst, ab, cb, by rw [HR.out]; rfl, by rw [HR.out], HI.out.2.2.1.mono HI.out.2.2.2, HBE.out⟩ | exact ⟨bst, ab, ⟨cb, by rw [HR.out]; rfl⟩, by rw [HR.out], HI.out.2.2.1.mono HI.out.2.2.2, HBE.out⟩ | exact ⟨bst, by rw [HR.out], ab, ⟨cb, by rw [HR.out]; rfl⟩, HI.out.2.2.1.mono HI.out.2.2.2, HBE.out⟩
  · have hb : (openE t true != 0) = true := by simpa using h0
    rw [if_neg h0] at HE
    clear h0
    go_wp2_with fail
    refine bodyPost_ret (results_tmp2 rfl _ _ _) rfl ?_
    exact ⟨[], none, 0, by rw [HE.out]; rfl, by rw [HE.out], fun i hi => by simp at hi, HB.out.1.trans (HB2.out.mono HB.out.1.size)⟩
end Go.Proofs.Ytphefhpmbahagaa

namespace Go.Proofs.Ytphefhpmbahagaa
open Go.RowKit
set_option linter.unusedVariables false
set_option linter.unusedSimpArgs false

/-- The best so far: the first of those that are sure and longest, and take the least time. -/
def moF (t : Tr) (b x : List Int) : List Int :=
  if t.is true x then (if b.length < x.length then x else if x.length = b.length then (if t.takes x < t.takes b then x else b) else b) else b
def moR (t : Tr) (j : Nat) : List Int := ((preO t.frm.length t.frm.length []).take j).foldl (moF t) []
theorem moR_succ {t : Tr} {j : Nat} {x : List Int} (h : (preO t.frm.length t.frm.length [])[j]? = some x) : moR t (j + 1) = moF t (moR t j) x := by
  unfold moR
  rw [List.take_add_one, h, List.foldl_append]
  rfl
theorem preO_zero (n : Nat) : (preO n n []).getD 0 [] = [] ∧ 0 < (preO n n []).length := by cases n <;> exact ⟨rfl, Nat.succ_pos _⟩
def rmostE (t : Tr) : List Int × Int := if openE t true = 0 then (moR t (preO t.frm.length t.frm.length []).length, 0) else ([], openE t true)
set_option maxRecDepth 100000 in
set_option maxHeartbeats 1000000 in
theorem rmost28 {t : Tr} {A : TrA} {w : World} (ht : IsTr w t A) (hs : t.Small) :
    Calls Try.prog 28 #[t.v A] w fun e w' => ∃ (o : List Int) (a : Option Addr) (c : Nat), e = .returned (.tuple #[.slice a o.length c, .int .i64 (rmostE t).2]) ∧ o = (rmostE t).1 ∧ IsInts w' a o ∧ Below w.heap.size w w' := by
  have hbw : Below w.heap.size w (w.alloc (.cells (t.cells A) 25)) := (Below.refl _ w).alloc (Nat.le_refl _) _
  have hq := World.alloc_heap_new w (.cells (t.cells A) 25)
  have HB := Lib.hid (And.intro hbw (And.intro hq (And.intro (ht.mono hbw) hs)))
  clear hbw hq ht hs
  go_enter Try.func28, Try.ntmps28
  go_upto_region 1 with fail
  revert HB
  generalize (w.alloc (.cells (t.cells A) 25)) = w1
  intro HB
  obtain ⟨k0, k1, k2, k3, k4⟩ := tr_cells HB.out.2.1
  go_wp2_with fail
  refine (rcheck50 HB.out.2.2.1 HB.out.2.2.2 true).mono ?_
  rintro e w2 ⟨rfl, hb2⟩
  have HB2 := Lib.hid hb2
  clear k0 k1 k2 k3 k4 hb2
  have HE : Hid (rmostE t = if openE t true = 0 then (moR t (preO t.frm.length t.frm.length []).length, 0) else ([], openE t true)) := rfl
  by_cases h0 : openE t true = 0
  · have HV := Lib.hid (fit_of_valid (openE_zero h0).1)
    rw [if_pos h0] at HE
    rw [h0]
    clear h0
    obtain ⟨k0, k1, k2, k3, k4⟩ := tr_cells ((HB2.out.block _ (heap_lt HB.out.2.1)).trans HB.out.2.1)
    go_wp2_with fail
    refine (orders_ref (w := w2) HV.out.n).mono ?_
    rintro e w3 ⟨v3, rfl, hr, hb3⟩
    obtain ⟨a3, c3, rfl, hl3⟩ := hr.lists
    have HT : Hid (∀ x ∈ preO t.frm.length t.frm.length [], x.length ≤ 16 ∧ ∀ v ∈ x, t.view v = true) := fun x hx => by
      obtain ⟨h1, h2⟩ := preO_mem _ _ _ hx (fun v hv => by cases hv) List.nodup_nil
      have := (all_in t.frm.length x h2 h1).1
      have := HV.out.n
      refine ⟨by omega, fun v hv => ?_⟩
      have := h1 v hv
      unfold Tr.view inR Tr.n
      simp; omega
    have hln : (preO t.frm.length t.frm.length []).length ≤ 117649 := preO_len6 HV.out.n
    have HCS : Hid (∀ k x, (preO t.frm.length t.frm.length [])[k]? = some x → moR t (k + 1) = moF t (moR t k) x) := fun k x h => moR_succ h
    have HCZ : Hid (moR t 0 = []) := rfl
    obtain ⟨hp0, hpos⟩ := preO_zero t.frm.length
    generalize preO t.frm.length t.frm.length [] = L at *
    obtain ⟨bl0, off0, ea, ax0, cx0, hc0, hi0⟩ := hl3 0 hpos
    rw [hp0] at hc0 hi0
    have HB3 := Lib.hid (And.intro (HB2.out.trans (hb3.mono HB2.out.size)) (And.intro hl3 hi0))
    have hc0 : w3.cell? ⟨bl0, off0, none⟩ = some (.slice ax0 0 cx0) := hc0
    subst ea
    clear k0 k1 k2 k3 k4 hb3 hr hl3 HB2 hp0 hi0
    go_wp2_with fail
    clear hc0
    go_loopw [6, 7] (fun o1 q wr => ∃ (j : Nat) (bst : List Int) (ab : Option Addr) (cb : Nat), j ≤ L.length ∧ q = .int .i64 (j : Int) ∧ o1 = .slice ab bst.length cb ∧ bst.length ≤ 16 ∧ Hid (moR t j = bst ∧ (∀ v ∈ bst, t.view v = true) ∧ IsInts w3 ab bst ∧ Below w3.heap.size w3 wr)) (fun _ q _ => (L.length : Int) - intOf q |>.toNat)
    case atStart => exact ⟨0, [], ax0, cx0, by omega, by go_num, rfl, by simp, HCZ.out, (fun v hv => by cases hv), HB3.out.2.2, Below.refl _ _⟩
    case round =>
      obtain ⟨j, bst, ab, cb, hj, rfl, rfl, hbl, HI⟩ := hrel
      by_cases hlt : j < L.length
      · have hx : L[j]? = some (L.getD j []) := by simp [hlt]
        have HVX := Lib.hid (HT.out _ (List.mem_of_getElem? hx))
        have HI3 := Lib.hid (HB3.out.2.1 j hlt)
        obtain ⟨bl, off, ebl, ax, cx, hc, hi⟩ := (HB3.out.2.1.mono HI.out.2.2.2) j hlt
        have HX3 : Hid (IsInts w3 ax (L.getD j [])) := by
          obtain ⟨bl', off', e, ax', cx', hc', hi'⟩ := HI3.out
          rw [ebl] at e
          cases e
          have := (cell_stays HI.out.2.2.2 hc').symm.trans hc
          cases this
          exact hi'
        cases ebl
        generalize L.getD j [] = x at *
        have hxl : x.length ≤ 16 := HVX.out.1
        have HBR := Lib.hid (HB3.out.1.trans (HI.out.2.2.2.mono HB3.out.1.size))
        have q1 := (HBR.out.block _ (heap_lt HB.out.2.1)).trans HB.out.2.1
        have HS1 := Lib.hid (HCS.out j x hx)
        obtain ⟨k0, k1, k2, k3, k4⟩ := tr_cells q1
        have y0 := fun y : Aft wr.heap.size wr => cell_stays y.h k0
        have y1 := fun y : Aft wr.heap.size wr => cell_stays y.h k1
        have y2 := fun y : Aft wr.heap.size wr => cell_stays y.h k2
        have y3 := fun y : Aft wr.heap.size wr => cell_stays y.h k3
        have y4 := fun y : Aft wr.heap.size wr => cell_stays y.h k4
        have y5 := fun y : Aft wr.heap.size wr => cell_stays y.h hc
        have e1 : Hid (∀ y : Aft wr.heap.size wr, Calls Try.prog 51 #[t.v A, .slice ax x.length cx] y.v fun e w' => e = .returned (.bool (t.is true x)) ∧ Below y.v.heap.size y.v w') := fun y => rsure51 ((HB.out.2.2.1.mono HBR.out).mono y.h) HV.out HVX.out.1 HVX.out.2 ((HX3.out.mono HI.out.2.2.2).mono y.h)
        have CC : Hid (∀ (a' : Option Addr) (l : List Int) (c' : Nat), Hid (l.length ≤ 16 ∧ (∀ v ∈ l, t.view v = true) ∧ IsInts w3 a' l) → ∀ y : Aft wr.heap.size wr, Calls Try.prog 42 #[t.v A, .slice a' l.length c'] y.v fun e w' => e = .returned (.int .i64 (t.takes l)) ∧ Below y.v.heap.size y.v w') := fun a' l c' h y => takes42 ((HB.out.2.2.1.mono HBR.out).mono y.h) HV.out h.out.1 h.out.2.1 ((h.out.2.2.mono HI.out.2.2.2).mono y.h)
        have G1 : Hid (x.length ≤ 16 ∧ (∀ v ∈ x, t.view v = true) ∧ IsInts w3 ax x) := ⟨HVX.out.1, HVX.out.2, HX3.out⟩
        have G2 : Hid (bst.length ≤ 16 ∧ (∀ v ∈ bst, t.view v = true) ∧ IsInts w3 ab bst) := ⟨hbl, HI.out.2.1, HI.out.2.2.1⟩
        have HC := Lib.hid hc
        clear k0 k1 k2 k3 k4 q1 hi hx hc HI3
        cases hs1 : t.is true x
        · have HSV := Lib.hid hs1
          rw [hs1] at e1
          clear hs1
          go_wp2_with fail
          refine wp_region_aft mixed (by kernel_rfl) ?_
          repeat (go_big_quiet_step (first | (go_at_call 51; exact calls_aft (e1.out _)) | (go_at_call 42; exact calls_aft (CC.out _ _ _ (by assumption) _))))
          refine wpQuiet_nil ?_
          rintro _ ⟨z, rfl⟩
          have z5 := y5 z
          have hz := z.h
          revert hz z5
          generalize z.v = w5
          intro z5 hz
          have HZ := Lib.hid (HI.out.2.2.2.trans (hz.mono HI.out.2.2.2.size))
          clear y0 y1 y2 y3 y4 y5 e1 CC hz
          go_wp2_with fail
          go_roundw
          case rel => exact ⟨j + 1, bst, ab, cb, by omega, by go_num, rfl, hbl, by rw [HS1.out, HI.out.1]; (unfold moF; rw [HSV.out]; rfl), HI.out.2.1, HI.out.2.2.1, HZ.out⟩
          case measure => simp [intOf]; omega
        · have HSV := Lib.hid hs1
          rw [hs1] at e1
          clear hs1
          by_cases hl1 : bst.length < x.length
          · have HL1 := Lib.hid hl1
            go_wp2_with fail
            refine wp_region_aft mixed (by kernel_rfl) ?_
            repeat (go_big_quiet_step (first | (go_at_call 51; exact calls_aft (e1.out _)) | (go_at_call 42; exact calls_aft (CC.out _ _ _ (by assumption) _))))
            refine wpQuiet_nil ?_
            rintro _ ⟨z, rfl⟩
            have z5 := y5 z
            have hz := z.h
            revert hz z5
            generalize z.v = w5
            intro z5 hz
            have HZ := Lib.hid (HI.out.2.2.2.trans (hz.mono HI.out.2.2.2.size))
            clear y0 y1 y2 y3 y4 y5 e1 CC hz
            go_wp2_with fail
            go_roundw
            case rel => exact ⟨j + 1, x, ax, cx, by omega, by go_num, rfl, hxl, by rw [HS1.out, HI.out.1]; (unfold moF; rw [HSV.out]; simp only [if_true]; rw [if_pos HL1.out]), G1.out.2.1, HX3.out, HZ.out⟩
            case measure => simp [intOf]; omega
          · have HL1 := Lib.hid (show ¬ bst.length < x.length from hl1)
            by_cases he : x.length = bst.length
            · have hbe : ((x.length : Int) == (bst.length : Int)) = true := by rw [he]; simp
              have HE1 := Lib.hid he
              clear he
              by_cases hlt2 : t.takes x < t.takes bst
              · have HLT := Lib.hid hlt2
                go_wp2_with fail
                refine wp_region_aft mixed (by kernel_rfl) ?_
                repeat (go_big_quiet_step (first | (go_at_call 51; exact calls_aft (e1.out _)) | (go_at_call 42; exact calls_aft (CC.out _ _ _ (by assumption) _))))
                refine wpQuiet_nil ?_
                rintro _ ⟨z, rfl⟩
                have z5 := y5 z
                have hz := z.h
                revert hz z5
                generalize z.v = w5
                intro z5 hz
                have HZ := Lib.hid (HI.out.2.2.2.trans (hz.mono HI.out.2.2.2.size))
                clear y0 y1 y2 y3 y4 y5 e1 CC hz
                go_wp2_with fail
                go_roundw
                case rel => exact ⟨j + 1, x, ax, cx, by omega, by go_num, rfl, hxl, by rw [HS1.out, HI.out.1]; (unfold moF; rw [HSV.out]; simp only [if_true]; rw [if_neg HL1.out, if_pos HE1.out, if_pos HLT.out]), G1.out.2.1, HX3.out, HZ.out⟩
                case measure => simp [intOf]; omega
              · have HLT := Lib.hid (show ¬ t.takes x < t.takes bst from hlt2)
                go_wp2_with fail
                refine wp_region_aft mixed (by kernel_rfl) ?_
                repeat (go_big_quiet_step (first | (go_at_call 51; exact calls_aft (e1.out _)) | (go_at_call 42; exact calls_aft (CC.out _ _ _ (by assumption) _))))
                refine wpQuiet_nil ?_
                rintro _ ⟨z, rfl⟩
                have z5 := y5 z
                have hz := z.h
                revert hz z5
                generalize z.v = w5
                intro z5 hz
                have HZ := Lib.hid (HI.out.2.2.2.trans (hz.mono HI.out.2.2.2.size))
                clear y0 y1 y2 y3 y4 y5 e1 CC hz
                go_wp2_with fail
                go_roundw
                case rel => exact ⟨j + 1, bst, ab, cb, by omega, by go_num, rfl, hbl, by rw [HS1.out, HI.out.1]; (unfold moF; rw [HSV.out]; simp only [if_true]; rw [if_neg HL1.out, if_pos HE1.out, if_neg (by have := HLT.out; omega)]), HI.out.2.1, HI.out.2.2.1, HZ.out⟩
                case measure => simp [intOf]; omega
            · have hbe : ((x.length : Int) == (bst.length : Int)) = false := by simp; omega
              have HE1 := Lib.hid he
              clear he
              go_wp2_with fail
              refine wp_region_aft mixed (by kernel_rfl) ?_
              repeat (go_big_quiet_step (first | (go_at_call 51; exact calls_aft (e1.out _)) | (go_at_call 42; exact calls_aft (CC.out _ _ _ (by assumption) _))))
              refine wpQuiet_nil ?_
              rintro _ ⟨z, rfl⟩
              have z5 := y5 z
              have hz := z.h
              revert hz z5
              generalize z.v = w5
              intro z5 hz
              have HZ := Lib.hid (HI.out.2.2.2.trans (hz.mono HI.out.2.2.2.size))
              clear y0 y1 y2 y3 y4 y5 e1 CC hz
              go_wp2_with fail
              go_roundw
              case rel => exact ⟨j + 1, bst, ab, cb, by omega, by go_num, rfl, hbl, by rw [HS1.out, HI.out.1]; (unfold moF; rw [HSV.out]; simp only [if_true]; rw [if_neg HL1.out, if_neg (by have := HE1.out; omega)]), HI.out.2.1, HI.out.2.2.1, HZ.out⟩
              case measure => simp [intOf]; omega
      · obtain rfl : j = L.length := by omega
        have HBE := Lib.hid (HB.out.1.trans ((HB3.out.1.trans (HI.out.2.2.2.mono HB3.out.1.size)).mono HB.out.1.size))
        have HR : Hid (rmostE t = (bst, 0)) := by rw [Hid, HE.out, HI.out.1]
        go_wp2_with fail
        refine bodyPost_ret (results_tmp2 rfl _ _ _) rfl ?_
        first | exact ⟨bst, ab, cb, by rw [HR.out]; rfl, by rw [HR.out], HI.out.2.2.1.mono HI.out.2.2.2, HBE.out⟩ | exact ⟨bst, ab, ⟨cb, by rw [HR.out]; rfl⟩, by rw [HR.out], HI.out.2.2.1.mono HI.out.2.2.2, HBE.out⟩ | exact ⟨bst, by rw [HR.out], ab, ⟨cb, by rw [HR.out]; rfl⟩, HI.out.2.2.1.mono HI.out.2.2.2, HBE.out⟩
  · have hb : (openE t true != 0) = true := by simpa using h0
    rw [if_neg h0] at HE
    clear h0
    go_wp2_with fail
    refine bodyPost_ret (results_tmp2 rfl _ _ _) rfl ?_
    exact ⟨[], none, 0, by rw [HE.out]; rfl, by rw [HE.out], fun i hi => by simp at hi, HB.out.1.trans (HB2.out.mono HB.out.1.size)⟩
end Go.Proofs.Ytphefhpmbahagaa

