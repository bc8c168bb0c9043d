/- Bytes that are handed in: how they lie. -/
import Derived.Test.YtnfhlbmapfoifaaBase
namespace Go.Proofs.Ytnfhlbmapfoifaa
open Go.RowKit

/-- Bytes that are handed in. -/
def IsU8 (w : World) (a : Option Addr) (n : Nat) : Prop := ∀ i, i < n → ∃ b off, a = some ⟨b, off, none⟩ ∧ ∃ x : Int, 0 ≤ x ∧ x ≤ 255 ∧ w.cell? ⟨b, off + i, none⟩ = some (.int .u8 x)
theorem IsU8.mono {w w' : World} {a : Option Addr} {n : Nat} (h : IsU8 w a n) (hb : Below w.heap.size w w') : IsU8 w' a n := fun i hi => by
  obtain ⟨b, off, e, x, h0, h1, hc⟩ := h i hi
  exact ⟨b, off, e, x, h0, h1, cell_stays hb hc⟩
end Go.Proofs.Ytnfhlbmapfoifaa
