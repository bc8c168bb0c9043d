/- Prints that are handed in, opened. -/
import Derived.Test.YtnfhlbmapfoifaaProg
import Derived.Test.YtnfhlbmapfoifaaW1
import Derived.Test.YtnfhlbmapfoifaaBase5
import Derived.Deep.Slices
import Derived.Deep.Fields
import Derived.Lib.SmallJoins
import Derived.Carry
namespace Go.Proofs.Ytnfhlbmapfoifaa
open Go.ChangeShapes Go.WideShapes Go.Deep Go.RowKit Go.Joins

theorem Try.laidOut : laidOutB Try.prog = true := by kernel_rfl
theorem Try.cells26 : Try.prog.cellsOf 26 = 5 := by kernel_rfl
theorem Try.cells54 : Try.prog.cellsOf 54 = 5 := by kernel_rfl
theorem Try.cells24 : Try.prog.cellsOf 24 = 2 := by kernel_rfl
theorem Try.cells3 : Try.prog.cellsOf 3 = 1 := by kernel_rfl
theorem Try.cells22 : Try.prog.cellsOf 22 = 1 := by kernel_rfl

theorem add_at (b o i : Nat) : (⟨b, o, none⟩ : Addr).add i = ⟨b, o + i, none⟩ := by
  unfold Addr.add
  split
  · rename_i h; subst h; rfl
  · rfl
theorem spotless {w : World} {a : Addr} {v : Value} (h : w.cell? a = some v) : a = ⟨a.block, a.off, none⟩ := by
  obtain ⟨b, o, s⟩ := a
  cases s with
  | none => rfl
  | some s =>
    exfalso
    simp only [World.cell?] at h
    split at h <;> simp at h
theorem add_zero' (a : Addr) : a.add 0 = a := rfl
section
variable {H : Type} {enc : TypeId × Value → H} {w : World} {base : Nat} {spare : Nat → Bool} {held : Bool}
set_option maxRecDepth 100000 in
theorem trod_c1 {t : TypeId} {fuel : Nat} {cs : List Value} {x : DataW H × List MemPlace} (ht : Try.prog.underlying t = some (.int .i64)) (h : DataW.trod enc Try.prog w base spare held fuel t cs = some x) :
    ∃ n, cs = [.int .i64 n] ∧ (-9223372036854775808 ≤ n ∧ n ≤ 9223372036854775807) := by
  obtain ⟨n, h1, _, h3⟩ := DataW.trod_int ht h
  exact ⟨n, h1, by simpa [Lit.wf, IntKind.min, IntKind.max, IntKind.signed, IntKind.bits] using h3⟩
set_option maxRecDepth 100000 in
theorem trod_span {fuel : Nat} {cs : List Value} {x : DataW H × List MemPlace} (h : DataW.trod enc Try.prog w base spare held fuel 24 cs = some x) :
    ∃ a b : Int, cs = [.int .i64 a, .int .i64 b] := by
  obtain ⟨xs, n, _, _, hl, hx, hf⟩ := DataW.trod_struct Try.underlying24 h
  rw [Try.cells24] at hl
  have hx : xs.length = 2 := hx
  match cs, hl, xs, hx with
  | [c0, c1], _, [x0, x1], _ =>
    have e := Try.cells3
    have f0 : DataW.trod enc Try.prog w base spare held n 3 (([c0, c1].drop 0).take (Try.prog.cellsOf 3)) = some x0 := hf 0 _ rfl
    have f1 : DataW.trod enc Try.prog w base spare held n 3 (([c0, c1].drop 1).take (Try.prog.cellsOf 3)) = some x1 := hf 1 _ rfl
    rw [e] at f0 f1
    obtain ⟨n0, h0, _⟩ := trod_c1 Try.underlying3 f0
    obtain ⟨n1, h1, _⟩ := trod_c1 Try.underlying3 f1
    simp at h0 h1
    exact ⟨n0, n1, by rw [h0, h1]⟩
set_option maxRecDepth 100000 in
theorem trod_prt {fuel : Nat} {cs : List Value} {x : DataW H × List MemPlace} (h : DataW.trod enc Try.prog w base spare held fuel 54 cs = some x) :
    ∃ a b c d e : Int, cs = [.int .i64 a, .int .i64 b, .int .i64 c, .int .i64 d, .int .i64 e] := by
  obtain ⟨xs, n, _, _, hl, hx, hf⟩ := DataW.trod_struct Try.underlying54 h
  rw [Try.cells54] at hl
  have hx : xs.length = 3 := hx
  match cs, hl, xs, hx with
  | [c0, c1, c2, c3, c4], _, [x0, x1, x2], _ =>
    have e := Try.cells3
    have e2 := Try.cells24
    have f0 : DataW.trod enc Try.prog w base spare held n 24 (([c0, c1, c2, c3, c4].drop 0).take (Try.prog.cellsOf 24)) = some x0 := hf 0 _ rfl
    have f1 : DataW.trod enc Try.prog w base spare held n 24 (([c0, c1, c2, c3, c4].drop 2).take (Try.prog.cellsOf 24)) = some x1 := hf 1 _ rfl
    have f2 : DataW.trod enc Try.prog w base spare held n 3 (([c0, c1, c2, c3, c4].drop 4).take (Try.prog.cellsOf 3)) = some x2 := hf 2 _ rfl
    rw [e2] at f0 f1
    rw [e] at f2
    obtain ⟨a, b, h0⟩ := trod_span f0
    obtain ⟨c, d, h1⟩ := trod_span f1
    obtain ⟨g, h2, _⟩ := trod_c1 Try.underlying3 f2
    simp at h0 h1 h2
    exact ⟨a, b, c, d, g, by rw [h0.1, h0.2, h1.1, h1.2, h2]⟩
theorem open_prts {t : TypeId} {fuel : Nat} {v : Value} {x : DataW H × List MemPlace} (ht : Try.prog.underlying t = some (.slice 54)) (h : DataW.trod enc Try.prog w base spare held fuel t [v] = some x) :
    ∃ (a : Option Addr) (l : List Prt) (cap : Nat), v = .slice a l.length cap ∧ l.length ≤ cap ∧ cap ≤ maxLen ∧ IsPrts w a l := by
  rcases open_slice ht h with ⟨h1, _⟩ | ⟨a, len, cap, m, n, D, Pl, h1, _, hl, hm, hmm, _, hi⟩
  · simp only [List.cons.injEq, and_true] at h1
    exact ⟨none, [], 0, h1, by simp, by simp [maxLen], fun i hi => by simp at hi⟩
  · simp only [List.cons.injEq, and_true] at h1
    have hle : len ≤ m := by rw [hmm]; split <;> omega
    have hs : 0 < len → a = ⟨a.block, a.off, none⟩ := fun h => by
      obtain ⟨cs, hc, hd⟩ := hi 0 (by omega)
      obtain ⟨k0, k1, k2, k3, k4, rfl⟩ := trod_prt hd
      obtain ⟨_, hcl, hat⟩ := World.cells?_some hc
      have h0 := hat 0 (by rw [Try.cells54]; decide)
      rw [Nat.zero_mul, add_zero', add_zero'] at h0
      exact spotless h0
    have each : ∀ i, ∃ l : Prt, i < len → a = ⟨a.block, a.off, none⟩ ∧ w.cell? ⟨a.block, a.off + i * 5, none⟩ = some (.int .i64 l.slo) ∧ w.cell? ⟨a.block, a.off + i * 5 + 1, none⟩ = some (.int .i64 l.shi) ∧
        w.cell? ⟨a.block, a.off + i * 5 + 2, none⟩ = some (.int .i64 l.wlo) ∧ w.cell? ⟨a.block, a.off + i * 5 + 3, none⟩ = some (.int .i64 l.whi) ∧ w.cell? ⟨a.block, a.off + i * 5 + 4, none⟩ = some (.int .i64 l.marks) := by
      intro i
      by_cases hil : i < len
      · have hs := hs (by omega)
        obtain ⟨cs, hc, hd⟩ := hi i (by omega)
        rw [Try.cells54] at hc
        obtain ⟨_, hcl, hat⟩ := World.cells?_some hc
        obtain ⟨k0, k1, k2, k3, k4, rfl⟩ := trod_prt hd
        have h0 := hat 0 (by decide)
        have h1 := hat 1 (by decide)
        have h2 := hat 2 (by decide)
        have h3 := hat 3 (by decide)
        have h4 := hat 4 (by decide)
        rw [hs, add_at, add_at] at h0 h1 h2 h3 h4
        exact ⟨⟨k0, k1, k2, k3, k4⟩, fun _ => ⟨hs, h0, h1, h2, h3, h4⟩⟩
      · exact ⟨⟨0, 0, 0, 0, 0⟩, fun h => absurd h hil⟩
    obtain ⟨f, hf⟩ := Classical.axiomOfChoice each
    refine ⟨some a, (List.range len).map f, cap, by rw [h1]; simp, by simpa using hl, hm, fun i hi => ?_⟩
    have hi' : i < len := by simpa using hi
    obtain ⟨hs, h0⟩ := hf i hi'
    refine ⟨a.block, a.off, by rw [← hs], ?_⟩
    have : gp ((List.range len).map f) i = f i := by simp [gp, hi']
    rw [this]
    exact h0
set_option maxRecDepth 100000 in
theorem open_prs {b0 : Nat} {v : Value} {d : DataW H} {p : List MemPlace} (hv : Value.okWide Try.prog w .any b0 26 v) (h : DataW.Trod enc Try.prog w base spare held 26 v d p) :
    ∃ (c : Prs) (a : Option Addr) (cap : Nat), v = c.v a cap ∧ IsPrts w a c.cards := by
  obtain ⟨cs, rfl, hsz⟩ := okWide_struct Try.underlying26 hv
  rw [Try.cells26] at hsz
  obtain ⟨fuel, hf⟩ := h
  obtain ⟨xs, n, _, _, hl, hx, hf⟩ := DataW.trod_struct Try.underlying26 hf
  have hx : xs.length = 3 := hx
  obtain ⟨l⟩ := cs
  have hsz : l.length = 5 := hsz
  match l, hsz, xs, hx with
  | [c0, c1, c2, c3, c4], _, [x0, x1, x2], _ =>
    have e := Try.cells22
    have e2 := Try.cells24
    have f0 : DataW.trod enc Try.prog w base spare held n 22 (([c0, c1, c2, c3, c4].drop 0).take (Try.prog.cellsOf 22)) = some x0 := hf 0 _ rfl
    have f1 : DataW.trod enc Try.prog w base spare held n 24 (([c0, c1, c2, c3, c4].drop 1).take (Try.prog.cellsOf 24)) = some x1 := hf 1 _ rfl
    have f2 : DataW.trod enc Try.prog w base spare held n 24 (([c0, c1, c2, c3, c4].drop 3).take (Try.prog.cellsOf 24)) = some x2 := hf 2 _ rfl
    rw [e] at f0
    rw [e2] at f1 f2
    obtain ⟨a, l, cap, h0, _, _, hp⟩ := open_prts Try.underlying22 f0
    obtain ⟨lo, hi, h1⟩ := trod_span f1
    obtain ⟨lo2, hi2, h2⟩ := trod_span f2
    simp at h0 h1 h2
    obtain ⟨rfl, rfl⟩ := h1
    obtain ⟨rfl, rfl⟩ := h2
    subst h0
    exact ⟨⟨l, lo, hi, lo2, hi2⟩, a, cap, rfl, hp⟩
end
end Go.Proofs.Ytnfhlbmapfoifaa
