/- Rows of prints in a block of their own: copied, and written to. -/
import Derived.Test.YtnfhlbmapfoifaaR40
namespace Go.Proofs.Ytnfhlbmapfoifaa
open Go.RowKit
set_option linter.unusedVariables false
set_option linter.unusedSimpArgs false

/-- The e-th cell of a print; the print with another e-th cell. -/
def Prt.cell (c : Prt) : Nat → Int
  | 0 => c.slo
  | 1 => c.shi
  | 2 => c.wlo
  | 3 => c.whi
  | _ => c.marks
def Prt.put (c : Prt) (x : Int) : Nat → Prt
  | 0 => { c with slo := x }
  | 1 => { c with shi := x }
  | 2 => { c with wlo := x }
  | 3 => { c with whi := x }
  | _ => { c with marks := x }
theorem put_cell (c : Prt) (x : Int) {e f : Nat} (he : e < 5) (hf : f < 5) : (c.put x e).cell f = if e = f then x else c.cell f := by
  have h1 : e = 0 ∨ e = 1 ∨ e = 2 ∨ e = 3 ∨ e = 4 := by omega
  have h2 : f = 0 ∨ f = 1 ∨ f = 2 ∨ f = 3 ∨ f = 4 := by omega
  rcases h1 with rfl | rfl | rfl | rfl | rfl <;> rcases h2 with rfl | rfl | rfl | rfl | rfl <;> rfl
theorem gp_set {l : List Prt} {k i : Nat} {x : Prt} (h : k < l.length) : gp (l.set k x) i = if k = i then x else gp l i := by
  unfold gp
  rw [List.getD_eq_getElem?_getD, List.getD_eq_getElem?_getD, List.getElem?_set]
  by_cases e : k = i
  · subst e; rw [if_pos rfl, if_pos rfl, if_pos h]; rfl
  · rw [if_neg e, if_neg e]
def prV (l : List Prt) : List Value := l.flatMap fun c => [.int .i64 c.slo, .int .i64 c.shi, .int .i64 c.wlo, .int .i64 c.whi, .int .i64 c.marks]
theorem prV_cons (x : Prt) (r : List Prt) : prV (x :: r) = .int .i64 x.slo :: .int .i64 x.shi :: .int .i64 x.wlo :: .int .i64 x.whi :: .int .i64 x.marks :: prV r := by simp [prV]
theorem prV_len : ∀ l : List Prt, (prV l).length = l.length * 5
  | [] => rfl
  | x :: r => by
    rw [prV_cons]
    simp only [List.length_cons]
    rw [prV_len r]; omega
theorem prV_at : ∀ {l : List Prt} {i e : Nat}, i < l.length → e < 5 → (prV l)[i * 5 + e]? = some (.int .i64 ((gp l i).cell e))
  | [], i, e, h, _ => by simp at h
  | y :: r, 0, e, h, he => by
    rw [prV_cons]
    have h1 : e = 0 ∨ e = 1 ∨ e = 2 ∨ e = 3 ∨ e = 4 := by omega
    rcases h1 with rfl | rfl | rfl | rfl | rfl <;> simp [gp, Prt.cell]
  | y :: r, i + 1, e, h, he => by
    have := prV_at (l := r) (i := i) (by simpa using h) he
    have e2 : gp (y :: r) (i + 1) = gp r i := by simp [gp]
    rw [prV_cons, e2, show (i + 1) * 5 + e = i * 5 + e + 5 by omega]
    simpa using this
theorem prV_one {l : List Prt} : ∀ u ∈ prV l, u.oneCell' = true := fun u hu => by
  unfold prV at hu
  rw [List.mem_flatMap] at hu
  obtain ⟨x, _, hx⟩ := hu
  simp at hx
  rcases hx with rfl | rfl | rfl | rfl | rfl <;> rfl
theorem IsPrts.cell {w : World} {a : Option Addr} {l : List Prt} (h : IsPrts w a l) {i e : Nat} (hi : i < l.length) (he : e < 5) : ∃ b off, a = some ⟨b, off, none⟩ ∧ w.cell? ⟨b, off + (i * 5 + e), none⟩ = some (.int .i64 ((gp l i).cell e)) := by
  obtain ⟨b, off, h0, c0, c1, c2, c3, c4⟩ := h i hi
  have h1 : e = 0 ∨ e = 1 ∨ e = 2 ∨ e = 3 ∨ e = 4 := by omega
  refine ⟨b, off, h0, ?_⟩
  rw [← Nat.add_assoc]
  rcases h1 with rfl | rfl | rfl | rfl | rfl
  · exact c0
  · exact c1
  · exact c2
  · exact c3
  · exact c4
theorem prts_news {w : World} {a : Option Addr} {l : List Prt} (h : IsPrts w a l) : l.length ≠ 0 → ∃ ad, a = some ad ∧ ∀ j u, (prV l)[j]? = some u → w.cell? (ad.add j) = some u := fun h0 => by
  obtain ⟨b, off, e, _⟩ := h 0 (by omega)
  refine ⟨⟨b, off, none⟩, e, fun j u hj => ?_⟩
  have hjl : j < l.length * 5 := by have := (List.getElem?_eq_some_iff.1 hj).1; rw [prV_len] at this; exact this
  have e2 : ((⟨b, off, none⟩ : Addr).add j) = ⟨b, off + j, none⟩ := by unfold Addr.add; split <;> simp_all
  rw [e2]
  obtain ⟨b', off', e', hc⟩ := h.cell (i := j / 5) (e := j % 5) (by omega) (by omega)
  rw [e] at e'
  cases e'
  have hv := prV_at (l := l) (i := j / 5) (e := j % 5) (by omega) (by omega)
  have ej : j / 5 * 5 + j % 5 = j := by omega
  rw [ej] at hc hv
  rw [hc, ← hv, hj]
/-- A row of prints in a block of its own. -/
structure PrRow (g : Nat) (l : List Prt) (w : World) : Prop where
  row : ∃ cur : Array Value, w.heap[g]? = some (.cells cur 54 (0, 0)) ∧ ∀ i e, i < l.length → e < 5 → cur[i * 5 + e]? = some (.int .i64 ((gp l i).cell e))
theorem PrRow.cells {g : Nat} {l : List Prt} {w : World} (h : PrRow g l w) {i e : Nat} (hi : i < l.length) (he : e < 5) : w.cell? ⟨g, i * 5 + e, none⟩ = some (.int .i64 ((gp l i).cell e)) := by
  obtain ⟨cur, h1, h2⟩ := h.row
  rw [cell_of_heap h1]
  exact h2 i e hi he
theorem PrRow.prts {g : Nat} {l : List Prt} {w : World} (h : PrRow g l w) : IsPrts w (some ⟨g, 0, none⟩) l := fun i hi => by
  refine ⟨g, 0, rfl, ?_, ?_, ?_, ?_, ?_⟩ <;> rw [Nat.zero_add]
  · exact h.cells hi (e := 0) (by decide)
  · exact h.cells hi (e := 1) (by decide)
  · exact h.cells hi (e := 2) (by decide)
  · exact h.cells hi (e := 3) (by decide)
  · exact h.cells hi (e := 4) (by decide)
theorem PrRow.mono {g : Nat} {l : List Prt} {w w' : World} (h : PrRow g l w) (hb : Below w.heap.size w w') : PrRow g l w' := by
  obtain ⟨cur, h1, h2⟩ := h.row
  exact ⟨cur, (hb.block _ (heap_lt h1)).trans h1, h2⟩
theorem PrRow.other {g : Nat} {l : List Prt} {v : World} (h : PrRow g l v) {b : Nat} (hne : b ≠ g) (k : Nat) (x : Value) : PrRow g l (v.setCell ⟨b, k, none⟩ x) := by
  obtain ⟨cur, h1, h2⟩ := h.row
  exact ⟨cur, (Below.heap_setCell _ _ _ _ (Ne.symm hne)).trans h1, h2⟩
theorem PrRow.lt {g : Nat} {l : List Prt} {w : World} (h : PrRow g l w) : g < w.heap.size := by
  obtain ⟨cur, h1, _⟩ := h.row
  exact heap_lt h1
theorem PrRow.frozen {g : Nat} {l : List Prt} {w : World} (h : PrRow g l w) (k : Nat) : w.frozen? ⟨g, k, none⟩ = false := by
  obtain ⟨cur, h1, _⟩ := h.row
  exact frozen_of_heap h1
theorem PrRow.put {g : Nat} {l : List Prt} {w : World} (h : PrRow g l w) {k e : Nat} (hk : k < l.length) (he : e < 5) (x : Int) : PrRow g (l.set k ((gp l k).put x e)) (w.setCell ⟨g, k * 5 + e, none⟩ (.int .i64 x)) := by
  obtain ⟨cur, h1, h2⟩ := h.row
  refine ⟨_, heap_setCell_at h1 _, fun i f hi hf => ?_⟩
  rw [List.length_set] at hi
  have hh := h2 i f hi hf
  rw [gp_set hk, Array.getElem?_setIfInBounds]
  by_cases e1 : k = i
  · subst e1
    rw [if_pos rfl, put_cell _ _ he hf]
    by_cases e2 : e = f
    · subst e2
      rw [if_pos rfl, if_pos (Array.getElem?_eq_some_iff.1 hh).1, if_pos rfl]
    · rw [if_neg (by omega), if_neg e2]; exact hh
  · rw [if_neg e1, if_neg (by omega)]; exact hh
theorem info_partsP {t : TypeId} {z : Value} {n m : Nat} (h : (Try.prog.info? t).map (fun i => (i.zero, i.size, i.bytes)) = some (some z, n, m)) : ∃ i, Try.prog.info? t = some i ∧ i.zero = some z ∧ i.size = n ∧ i.bytes = m := by
  cases hi : Try.prog.info? t with
  | none => rw [hi] at h; cases h
  | some i => rw [hi] at h; simp at h; exact ⟨i, rfl, h.1, h.2.1, h.2.2⟩
theorem infoPr : (Try.prog.info? 54).map (fun i => (i.zero, i.size, i.bytes)) = some (some (.agg #[.int .i64 0, .int .i64 0, .int .i64 0, .int .i64 0, .int .i64 0]), 5, 40) := by kernel_rfl
theorem own_none54 {w : World} {B : Nat} (h : B ≤ w.heap.size) : (w.alloc (.cells #[] 54)).ownsRow B 54 5 (.slice (some ⟨w.heap.size, 0, none⟩) 0 0) 0 [] := World.ownsRow_made (e := 54) (size := 5) w #[] 0 (base := B) h (by simp [maxLen]) (by simp)
/-- Prints are copied into a row of their own. -/
theorem copy_prts {W w : World} {av : Option Addr} {l : List Prt} {cv : Nat} {xs : Value} (h0 : 0 < l.length) (hk : l.length ≤ 16) (hb : Below W.heap.size W w) (hx : w.ownsRow W.heap.size 54 5 xs 0 []) (hi : IsPrts w av l) :
    ∃ (g c : Nat) (w' : World), (Builtin.append_ #[22, 22] 22 #[xs, .slice av l.length cv]).run Try.prog w = .ok (.slice (some ⟨g, 0, none⟩) l.length c) w' ∧ W.heap.size ≤ g ∧ PrRow g l w' ∧ Below W.heap.size W w' ∧ (∀ k, k < w.heap.size → xs.ownBlock ≠ some k → w'.heap[k]? = w.heap[k]? ∧ g ≠ k) := by
  obtain ⟨i0, hi0, hz0, hz1, hz2⟩ := info_partsP infoPr
  obtain ⟨v', w', hr, hn, hg, hor⟩ := append_rows_at (P := Try.prog) (w := w) W.heap.size 22 22 54 i0 _ 5 40 Try.underlying22 hi0 hz0 hz1 hz2 rfl (by decide) xs 0 [] hx av l.length cv (prV l) (prV_len l) (prts_news hi) prV_one (by simp [maxLen]; omega) (by omega) hb.size
  rw [Nat.zero_add, List.nil_append] at hn
  have hb' : Below W.heap.size W w' := hb.grown hg hb.size (fun k hk => (hx.lt k hk).1)
  rcases hn.2 with ⟨_, h1⟩ | ⟨g, cap, cur, rfl, h1, h2, _⟩
  · omega
  · refine ⟨g, cap, w', hr, h1, ⟨cur, h2, fun i e hi' he => ?_⟩, hb', fun k hk hne => ?_⟩
    · have := hn.cells (g := g) rfl _ _ (prV_at hi' he)
      have e : ((⟨g, 0, none⟩ : Addr).add (i * 5 + e)) = ⟨g, i * 5 + e, none⟩ := by unfold Addr.add; split <;> simp_all
      rw [e, cell_of_heap h2] at this
      exact this
    · refine ⟨hg.block k hk (fun e => hne e.symm), fun e => ?_⟩
      subst e
      rcases hor with h | h
      · exact hne h.symm
      · have h : some g = some w.heap.size := h
        cases h
        omega
end Go.Proofs.Ytnfhlbmapfoifaa
