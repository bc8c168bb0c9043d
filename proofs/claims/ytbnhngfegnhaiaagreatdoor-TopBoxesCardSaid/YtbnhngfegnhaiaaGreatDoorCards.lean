/-
  DERIVED. GIVEN WITH THE SEED: THE CARDS: each row of YtbnhngfegnhaiaaGreatDoorRows.lean that lists a variable, with what it lists TIED to the program's text (the seventh form; the later family's looks); each row that meets fmt, with fmt's text TOLD by the authors' own Lean function (tested against real Go, not proved from fmt's source: count such statements apart). THE CARD IS WHAT COUNTS. Prove the row's statement (the work); the ties are given (YtbnhngfegnhaiaaGreatDoorTie.lean); close each card by the builder's one call (the guide's Derived/Test/ToyasCard.lean, 'card_holds'). Laid BY PROGRAM, IN A SANDBOX (cutbox-door.mjs). By AI agents, Wed Nov 11 2026. No macro, syntax, notation, axiom, sorry.
-/
import Derived.Test.YtbnhngfegnhaiaaGreatDoorRows
import GoSem.ClaimSeven
namespace Go.Proofs.YtbnhngfegnhaiaaGreatDoor
namespace Rows

/-- THE TIED CARD OF 'pairworkstop.TopBoxes'. -/
def topBoxesCard : Claim7 := { stood := { row := topBoxesRow, standIns := [], harness := (true, "8570bb1d40b791520cd12bd450f24785eefc03162d694879dff68bb8edb60b47"), looks := true }, kinds := [], alts := [], laidByText := true, laidKinds := [.data, .data, .data], laidTests := true, laidLooks := .later }
def TopBoxesCardSaid : Prop := Claim7.holds Tryz.pinned (.plain (OpenSpec.ofChange topBoxesSpec)) topBoxesCard

/-- THE SECOND FORM's CARD OF 'pairworkstop.TopBoxes'. -/
def topBoxesUptoCard : Claim7 := { stood := { row := topBoxesUptoRow, standIns := [], harness := (true, "8570bb1d40b791520cd12bd450f24785eefc03162d694879dff68bb8edb60b47"), looks := true }, kinds := [], alts := [], laidByText := true, laidKinds := [.data, .data, .data], laidTests := true, laidLooks := .later }
def TopBoxesUptoCardSaid : Prop := Claim7.holds Tryz.pinned (.plain (OpenSpec.upto topBoxesSpec)) topBoxesUptoCard
end Rows
end Go.Proofs.YtbnhngfegnhaiaaGreatDoor
