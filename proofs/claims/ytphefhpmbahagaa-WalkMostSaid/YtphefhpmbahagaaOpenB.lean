/- Bytes that are handed in, opened. -/
import Derived.Test.YtphefhpmbahagaaOpen
import Derived.Test.YtphefhpmbahagaaT71
import Derived.OpenShut
namespace Go.Proofs.Ytphefhpmbahagaa
open Go.ChangeShapes Go.WideShapes Go.ChangeAt Go.Deep Go.RowKit Go.Joins

set_option maxRecDepth 100000 in
theorem open_u8s {H : Type} {enc : TypeId × Value → H} {W : World} {v : Value} {d : DataW H} {p : List MemPlace} {b0 : Nat} (hv : Value.okWide Try.prog W .any b0 54 v) (h : DataW.Trod enc Try.prog W 0 (fun _ => true) true 54 v d p) :
    ∃ (a : Option Addr) (l c : Nat), v = .slice a l c ∧ l ≤ 9223372036854775807 ∧ IsU8 W a l := by
  obtain ⟨a0, l0, c0, rfl⟩ := okWide_slice Try.underlying54 hv
  refine ⟨a0, l0, c0, rfl, ?_⟩
  obtain ⟨n0, h0⟩ := h
  have h0' : DataW.trod enc Try.prog W 0 (fun _ => true) true n0 54 [.slice a0 l0 c0] = some (d, p) := h0
  rcases open_ints Try.underlying54 Try.underlying5 (by kernel_rfl) h0' with ⟨h1, _⟩ | ⟨a, len, cap, zs, h1, _, hl, hm, hz, _, hc, hwf⟩
  · obtain ⟨rfl, rfl, rfl⟩ : a0 = none ∧ l0 = 0 ∧ c0 = 0 := by simpa using h1
    exact ⟨by omega, fun i hi => by omega⟩
  · obtain ⟨rfl, rfl, rfl⟩ : a0 = some a ∧ len = l0 ∧ cap = c0 := by
      have : a0 = some a ∧ l0 = len ∧ c0 = cap := by simpa using h1
      exact ⟨this.1, this.2.1.symm, this.2.2.symm⟩
    have hle : len ≤ zs.length := by rw [hz]; split <;> omega
    refine ⟨by unfold maxLen at hm; omega, fun i hi => ?_⟩
    have hs := spotless (hc 0 (by omega))
    rw [add_zero'] at hs
    refine ⟨a.block, a.off, by rw [← hs], gi zs i, ?_⟩
    have hci := hc i (by omega)
    rw [hs, add_at] at hci
    have hil : i < zs.length := by omega
    have hx := hwf (gi zs i) (by simp [gi, hil])
    have hx2 : 0 ≤ gi zs i ∧ gi zs i ≤ 255 := by simpa [Lit.wf, IntKind.min, IntKind.max, IntKind.signed, IntKind.bits] using hx
    refine ⟨hx2.1, hx2.2, ?_⟩
    rw [hci]
    simp [gi, hil]
end Go.Proofs.Ytphefhpmbahagaa
