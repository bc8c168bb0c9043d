/-
  DERIVED. GIVEN WITH THE SEED: THE CARDS: each row of YtbnhngfegnhaiaaDoorRows.lean that lists a variable, with what it lists TIED to the program's text (the seventh form; the later family's looks); each row that meets fmt, with fmt's text TOLD by the authors' own Lean function (tested against real Go, not proved from fmt's source: count such statements apart). THE CARD IS WHAT COUNTS. Prove the row's statement (the work); the ties are given (YtbnhngfegnhaiaaDoorTie.lean); close each card by the builder's one call (the guide's Derived/Test/ToyasCard.lean, 'card_holds'). Laid BY PROGRAM, IN A SANDBOX (cutbox-door.mjs). By AI agents, Wed Nov 11 2026. No macro, syntax, notation, axiom, sorry.
-/
import Derived.Test.YtbnhngfegnhaiaaDoorRows
import GoSem.ClaimSeven
namespace Go.Proofs.YtbnhngfegnhaiaaDoor
namespace Rows

/-- THE TIED CARD OF 'pairworkstop.TopMarks'. -/
def topMarksCard : Claim7 := { stood := { row := topMarksRow, standIns := [], harness := (true, "cf5d26db6d5a6fe36a10690dd4af5b5e058e4854bb792876fc10f5c9ac49fc12"), looks := true }, kinds := [], alts := [], laidByText := true, laidKinds := [.data, .data], laidTests := true, laidLooks := .later }
def TopMarksCardSaid : Prop := Claim7.holds Tryd.pinned (.plain (OpenSpec.ofChange topMarksSpec)) topMarksCard

/-- THE TIED CARD OF 'pairworkstop.TopBrush'. -/
def topBrushCard : Claim7 := { stood := { row := topBrushRow, standIns := [], harness := (true, "cf5d26db6d5a6fe36a10690dd4af5b5e058e4854bb792876fc10f5c9ac49fc12"), looks := true }, kinds := [], alts := [], laidByText := true, laidKinds := [.data, .data], laidTests := true, laidLooks := .later }
def TopBrushCardSaid : Prop := Claim7.holds Tryd.pinned (.plain (OpenSpec.ofChange topBrushSpec)) topBrushCard

/-- THE SECOND FORM's CARD OF 'pairworkstop.TopMarks'. -/
def topMarksUptoCard : Claim7 := { stood := { row := topMarksUptoRow, standIns := [], harness := (true, "cf5d26db6d5a6fe36a10690dd4af5b5e058e4854bb792876fc10f5c9ac49fc12"), looks := true }, kinds := [], alts := [], laidByText := true, laidKinds := [.data, .data], laidTests := true, laidLooks := .later }
def TopMarksUptoCardSaid : Prop := Claim7.holds Tryd.pinned (.plain (OpenSpec.upto topMarksSpec)) topMarksUptoCard

/-- THE SECOND FORM's CARD OF 'pairworkstop.TopBrush'. -/
def topBrushUptoCard : Claim7 := { stood := { row := topBrushUptoRow, standIns := [], harness := (true, "cf5d26db6d5a6fe36a10690dd4af5b5e058e4854bb792876fc10f5c9ac49fc12"), looks := true }, kinds := [], alts := [], laidByText := true, laidKinds := [.data, .data], laidTests := true, laidLooks := .later }
def TopBrushUptoCardSaid : Prop := Claim7.holds Tryd.pinned (.plain (OpenSpec.upto topBrushSpec)) topBrushUptoCard
end Rows
end Go.Proofs.YtbnhngfegnhaiaaDoor
