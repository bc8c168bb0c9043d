/- A cabinet that is handed in, opened; arguments read behind the call as they did before. -/
import Derived.Test.YtlhobddaojdnoaaProg
import Derived.Test.YtlhobddaojdnoaaW13
import Derived.Test.YtlhobddaojdnoaaBase5
import Derived.Deep.Slices
import Derived.Deep.Fields
import Derived.Lib.SmallJoins
import Derived.Carry
namespace Go.Proofs.Ytlhobddaojdnoaa
open Go.ChangeShapes Go.WideShapes Go.Deep Go.RowKit Go.Joins

theorem Try.laidOut : laidOutB Try.prog = true := by kernel_rfl
theorem Try.cells25 : Try.prog.cellsOf 25 = 4 := by kernel_rfl
theorem Try.cells48 : Try.prog.cellsOf 48 = 4 := by kernel_rfl
theorem Try.cells3 : Try.prog.cellsOf 3 = 1 := by kernel_rfl

theorem add_at (b o i : Nat) : (⟨b, o, none⟩ : Addr).add i = ⟨b, o + i, none⟩ := by
  unfold Addr.add
  split
  · rename_i h; subst h; rfl
  · rfl
theorem spotless {w : World} {a : Addr} {v : Value} (h : w.cell? a = some v) : a = ⟨a.block, a.off, none⟩ := by
  obtain ⟨b, o, s⟩ := a
  cases s with
  | none => rfl
  | some s =>
    exfalso
    simp only [World.cell?] at h
    split at h <;> simp at h
theorem add_zero' (a : Addr) : a.add 0 = a := rfl
section
variable {H : Type} {enc : TypeId × Value → H} {w : World} {base : Nat} {spare : Nat → Bool} {held : Bool}
set_option maxRecDepth 100000 in
theorem trod_c1 {t : TypeId} {fuel : Nat} {cs : List Value} {x : DataW H × List MemPlace} (ht : Try.prog.underlying t = some (.int .i64)) (h : DataW.trod enc Try.prog w base spare held fuel t cs = some x) :
    ∃ n, cs = [.int .i64 n] ∧ (-9223372036854775808 ≤ n ∧ n ≤ 9223372036854775807) := by
  obtain ⟨n, h1, _, h3⟩ := DataW.trod_int ht h
  exact ⟨n, h1, by simpa [Lit.wf, IntKind.min, IntKind.max, IntKind.signed, IntKind.bits] using h3⟩
set_option maxRecDepth 100000 in
theorem trod_loan {fuel : Nat} {cs : List Value} {x : DataW H × List MemPlace} (h : DataW.trod enc Try.prog w base spare held fuel 48 cs = some x) :
    ∃ a b c d : Int, cs = [.int .i64 a, .int .i64 b, .int .i64 c, .int .i64 d] := by
  obtain ⟨xs, n, _, _, hl, hx, hf⟩ := DataW.trod_struct Try.underlying48 h
  rw [Try.cells48] at hl
  have hx : xs.length = 4 := hx
  match cs, hl, xs, hx with
  | [c0, c1, c2, c3], _, [x0, x1, x2, x3], _ =>
    have e := Try.cells3
    have f0 : DataW.trod enc Try.prog w base spare held n 3 (([c0, c1, c2, c3].drop 0).take (Try.prog.cellsOf 3)) = some x0 := hf 0 _ rfl
    have f1 : DataW.trod enc Try.prog w base spare held n 3 (([c0, c1, c2, c3].drop 1).take (Try.prog.cellsOf 3)) = some x1 := hf 1 _ rfl
    have f2 : DataW.trod enc Try.prog w base spare held n 3 (([c0, c1, c2, c3].drop 2).take (Try.prog.cellsOf 3)) = some x2 := hf 2 _ rfl
    have f3 : DataW.trod enc Try.prog w base spare held n 3 (([c0, c1, c2, c3].drop 3).take (Try.prog.cellsOf 3)) = some x3 := hf 3 _ rfl
    rw [e] at f0 f1 f2 f3
    obtain ⟨n0, h0, _⟩ := trod_c1 Try.underlying3 f0
    obtain ⟨n1, h1, _⟩ := trod_c1 Try.underlying3 f1
    obtain ⟨n2, h2, _⟩ := trod_c1 Try.underlying3 f2
    obtain ⟨n3, h3, _⟩ := trod_c1 Try.underlying3 f3
    simp at h0 h1 h2 h3
    exact ⟨n0, n1, n2, n3, by rw [h0, h1, h2, h3]⟩
theorem open_row {t : TypeId} {fuel : Nat} {v : Value} {x : DataW H × List MemPlace} (ht : Try.prog.underlying t = some (.slice 3)) (h : DataW.trod enc Try.prog w base spare held fuel t [v] = some x) :
    ∃ (a : Option Addr) (l : List Int) (cap : Nat), v = .slice a l.length cap ∧ l.length ≤ cap ∧ cap ≤ maxLen ∧ IsInts w a l := by
  rcases open_ints ht Try.underlying3 Try.cells3 h with ⟨h1, _⟩ | ⟨a, len, cap, zs, h1, _, hl, hm, hz, _, hc, _⟩
  · simp only [List.cons.injEq, and_true] at h1
    exact ⟨none, [], 0, h1, by simp, by simp [maxLen], fun i hi => by simp at hi⟩
  · simp only [List.cons.injEq, and_true] at h1
    have hle : len ≤ zs.length := by rw [hz]; split <;> omega
    refine ⟨some a, zs.take len, cap, by rw [h1]; simp [hle], by simp; omega, hm, fun i hi => ?_⟩
    have hi' : i < len := by simp at hi; omega
    have := hc i (by omega)
    have hs := spotless (hc 0 (by omega))
    rw [add_zero'] at hs
    refine ⟨a.block, a.off, by rw [← hs], ?_⟩
    rw [hs, add_at] at this
    rw [this]
    simp [gi, hi']
theorem open_loans {t : TypeId} {fuel : Nat} {v : Value} {x : DataW H × List MemPlace} (ht : Try.prog.underlying t = some (.slice 48)) (h : DataW.trod enc Try.prog w base spare held fuel t [v] = some x) :
    ∃ (a : Option Addr) (l : List Ln) (cap : Nat), v = .slice a l.length cap ∧ l.length ≤ cap ∧ cap ≤ maxLen ∧ IsLoans w a l := by
  rcases open_slice ht h with ⟨h1, _⟩ | ⟨a, len, cap, m, n, D, Pl, h1, _, hl, hm, hmm, _, hi⟩
  · simp only [List.cons.injEq, and_true] at h1
    exact ⟨none, [], 0, h1, by simp, by simp [maxLen], fun i hi => by simp at hi⟩
  · simp only [List.cons.injEq, and_true] at h1
    have hle : len ≤ m := by rw [hmm]; split <;> omega
    have hs : 0 < len → a = ⟨a.block, a.off, none⟩ := fun h => by
      obtain ⟨cs, hc, hd⟩ := hi 0 (by omega)
      obtain ⟨k0, k1, k2, k3, rfl⟩ := trod_loan hd
      obtain ⟨_, hcl, hat⟩ := World.cells?_some hc
      have h0 := hat 0 (by rw [Try.cells48]; decide)
      rw [Nat.zero_mul, add_zero', add_zero'] at h0
      exact spotless h0
    have each : ∀ i, ∃ l : Ln, i < len → a = ⟨a.block, a.off, none⟩ ∧ w.cell? ⟨a.block, a.off + i * 4, none⟩ = some (.int .i64 l.kind) ∧ w.cell? ⟨a.block, a.off + i * 4 + 1, none⟩ = some (.int .i64 l.card) ∧
        w.cell? ⟨a.block, a.off + i * 4 + 2, none⟩ = some (.int .i64 l.person) ∧ w.cell? ⟨a.block, a.off + i * 4 + 3, none⟩ = some (.int .i64 l.slot) := by
      intro i
      by_cases hil : i < len
      · have hs := hs (by omega)
        obtain ⟨cs, hc, hd⟩ := hi i (by omega)
        rw [Try.cells48] at hc
        obtain ⟨_, hcl, hat⟩ := World.cells?_some hc
        obtain ⟨k0, k1, k2, k3, rfl⟩ := trod_loan hd
        have h0 := hat 0 (by decide)
        have h1 := hat 1 (by decide)
        have h2 := hat 2 (by decide)
        have h3 := hat 3 (by decide)
        rw [hs, add_at, add_at] at h0 h1 h2 h3
        exact ⟨⟨k0, k1, k2, k3⟩, fun _ => ⟨hs, h0, h1, h2, h3⟩⟩
      · exact ⟨⟨0, 0, 0, 0⟩, fun h => absurd h hil⟩
    obtain ⟨f, hf⟩ := Classical.axiomOfChoice each
    refine ⟨some a, (List.range len).map f, cap, by rw [h1]; simp, by simpa using hl, hm, fun i hi => ?_⟩
    have hi' : i < len := by simpa using hi
    obtain ⟨hs, h0⟩ := hf i hi'
    refine ⟨a.block, a.off, by rw [← hs], ?_⟩
    have : gl ((List.range len).map f) i = f i := by simp [gl, hi']
    rw [this]
    exact h0
set_option maxRecDepth 100000 in
theorem open_cab {b0 : Nat} {v : Value} {d : DataW H} {p : List MemPlace} (hv : Value.okWide Try.prog w .any b0 25 v) (h : DataW.Trod enc Try.prog w base spare held 25 v d p) :
    ∃ c ah ch al cl, v = Cab.v c ah ch al cl ∧ IsInts w ah c.homes ∧ IsLoans w al c.loans ∧ c.homes.length ≤ ch ∧ ch ≤ maxLen ∧ c.loans.length ≤ cl ∧ cl ≤ maxLen ∧
      (-9223372036854775808 ≤ c.slots ∧ c.slots ≤ 9223372036854775807) ∧ (-9223372036854775808 ≤ c.wrong ∧ c.wrong ≤ 9223372036854775807) := by
  obtain ⟨v0, v1, v2, v3, y0, y1, y2, y3, n, rfl, _, _, h0, h1, h2, h3⟩ := open_agg4 Try.underlying25 (by kernel_rfl) Try.cells25 hv h
  obtain ⟨a, ha, ba⟩ := trod_c1 Try.underlying3 h0
  obtain ⟨g, hg, bg⟩ := trod_c1 Try.underlying3 h2
  obtain ⟨ah, hs, ch, rfl, hc1, hc2, hi⟩ := open_row Try.underlying22 h1
  obtain ⟨al, ls, cl, rfl, hl1, hl2, li⟩ := open_loans Try.underlying23 h3
  simp only [List.cons.injEq, and_true] at ha hg
  subst ha
  subst hg
  exact ⟨⟨a, hs, g, ls⟩, ah, ch, al, cl, rfl, hi, li, hc1, hc2, hl1, hl2, ba, bg⟩
end
end Go.Proofs.Ytlhobddaojdnoaa
