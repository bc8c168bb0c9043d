/-
  No cell of these rows narrows 'for every input' (looked for: loops, veiled, ifaces, maps, wideKeys, modest, calm, conditions, laid).
  DERIVED. THE GIVEN ROWS OF THIS SEAT. 9 by the template 'for every input the law returns true; each argument reads behind the call as it read before'; 0 by the template 'total and deterministic' (their statements: YtlhobddaojdnoaaTotals.lean).
  GIVEN WITH THE SEED: the statements are not yours to turn. If you find one false, say at which input.
  Laid BY PROGRAM, IN A SANDBOX (cutbox-rows.mjs): the forced cells as the released guide's own fill.sh prints them over the translation a51eb52da1bc7223… (all of the seat's roots in one cut). By AI agents, Wed Nov 11 2026. No macro, syntax, notation, axiom, sorry.
-/
import Derived.Test.YtlhobddaojdnoaaChecked
import GoSem.Claim
import GoSem.ClaimJoined
import GoSem.ClaimMapViews
import Derived.JoinedTies
import Derived.KernelRfl
namespace Go.Proofs.Ytlhobddaojdnoaa
/- THE CELL 'sum', in the pinned program and in every row, IS THE sha256 OF THE DUMP (.gsa) THAT YtlhobddaojdnoaaProg.lean LOADS. Nothing in Lean hashes anything: it is a label: what it is worth is what the hold of that sum in a sandbox is worth. -/
noncomputable def Try.pinned : Pinned := { name := "ytlhobddaojdnoaa", sum := "a51eb52da1bc7223287770d550df337ddcf3022ff063822b253a356b95fc1576", checked := Try.checked }
namespace Rows
def none {H : Type} : Left H := { results := [], args := [] }

/-- 'pairworkslaw11.LendPlaces': WHATEVER THE INPUT: true; the input reads as it did. -/
def lendPlacesSpec : ChangeSpec := { name := "lendPlaces", fn := fun _ => fun
  | [d1, d2, d3] => { results := [.lit (.bool true)], args := [d1, d2, d3] }
  | _ => none }
def lendPlacesRow : OpenClaim := { program := "ytlhobddaojdnoaa", sum := "a51eb52da1bc7223287770d550df337ddcf3022ff063822b253a356b95fc1576", func := "pairworks/pairworkslaw11.LendPlaces", spec := "lendPlaces", unfollowed := true, recurses := true, plainKeys := false, apart := false }
def LendPlacesSaid : Prop := lendPlacesRow.holds Try.pinned (OpenSpec.ofChange lendPlacesSpec)

/-- ITS FALSE NEIGHBOUR: 'it returns false'. Refute it at one input. -/
def lendPlacesWrong : ChangeSpec := { name := "lendPlaces", fn := fun _ => fun
  | [d1, d2, d3] => { results := [.lit (.bool false)], args := [d1, d2, d3] }
  | _ => none }
def LendPlacesWrongFalsely : Prop := lendPlacesRow.holds Try.pinned (OpenSpec.ofChange lendPlacesWrong)

/-- 'pairworkslaw11.LendBlames': WHATEVER THE INPUT: true; the input reads as it did. -/
def lendBlamesSpec : ChangeSpec := { name := "lendBlames", fn := fun _ => fun
  | [d] => { results := [.lit (.bool true)], args := [d] }
  | _ => none }
def lendBlamesRow : OpenClaim := { program := "ytlhobddaojdnoaa", sum := "a51eb52da1bc7223287770d550df337ddcf3022ff063822b253a356b95fc1576", func := "pairworks/pairworkslaw11.LendBlames", spec := "lendBlames", unfollowed := true, recurses := true, plainKeys := false, apart := false }
def LendBlamesSaid : Prop := lendBlamesRow.holds Try.pinned (OpenSpec.ofChange lendBlamesSpec)

/-- ITS FALSE NEIGHBOUR: 'it returns false'. Refute it at one input. -/
def lendBlamesWrong : ChangeSpec := { name := "lendBlames", fn := fun _ => fun
  | [d] => { results := [.lit (.bool false)], args := [d] }
  | _ => none }
def LendBlamesWrongFalsely : Prop := lendBlamesRow.holds Try.pinned (OpenSpec.ofChange lendBlamesWrong)

/-- 'pairworkslaw11.LendNames': WHATEVER THE INPUT: true; the input reads as it did. -/
def lendNamesSpec : ChangeSpec := { name := "lendNames", fn := fun _ => fun
  | [] => { results := [.lit (.bool true)], args := [] }
  | _ => none }
def lendNamesRow : OpenClaim := { program := "ytlhobddaojdnoaa", sum := "a51eb52da1bc7223287770d550df337ddcf3022ff063822b253a356b95fc1576", func := "pairworks/pairworkslaw11.LendNames", spec := "lendNames", unfollowed := true, recurses := true, plainKeys := false, apart := false }
def LendNamesSaid : Prop := lendNamesRow.holds Try.pinned (OpenSpec.ofChange lendNamesSpec)

/-- ITS FALSE NEIGHBOUR: 'it returns false'. Refute it at one input. -/
def lendNamesWrong : ChangeSpec := { name := "lendNames", fn := fun _ => fun
  | [] => { results := [.lit (.bool false)], args := [] }
  | _ => none }
def LendNamesWrongFalsely : Prop := lendNamesRow.holds Try.pinned (OpenSpec.ofChange lendNamesWrong)

/-- 'pairworkslaw11.LendTrue': WHATEVER THE INPUT: true; the input reads as it did. -/
def lendTrueSpec : ChangeSpec := { name := "lendTrue", fn := fun _ => fun
  | [d] => { results := [.lit (.bool true)], args := [d] }
  | _ => none }
def lendTrueRow : OpenClaim := { program := "ytlhobddaojdnoaa", sum := "a51eb52da1bc7223287770d550df337ddcf3022ff063822b253a356b95fc1576", func := "pairworks/pairworkslaw11.LendTrue", spec := "lendTrue", unfollowed := true, recurses := true, plainKeys := false, apart := false }
def LendTrueSaid : Prop := lendTrueRow.holds Try.pinned (OpenSpec.ofChange lendTrueSpec)

/-- ITS FALSE NEIGHBOUR: 'it returns false'. Refute it at one input. -/
def lendTrueWrong : ChangeSpec := { name := "lendTrue", fn := fun _ => fun
  | [d] => { results := [.lit (.bool false)], args := [d] }
  | _ => none }
def LendTrueWrongFalsely : Prop := lendTrueRow.holds Try.pinned (OpenSpec.ofChange lendTrueWrong)

/-- 'pairworkslaw11.LendPlaced': WHATEVER THE INPUT: true; the input reads as it did. -/
def lendPlacedSpec : ChangeSpec := { name := "lendPlaced", fn := fun _ => fun
  | [d] => { results := [.lit (.bool true)], args := [d] }
  | _ => none }
def lendPlacedRow : OpenClaim := { program := "ytlhobddaojdnoaa", sum := "a51eb52da1bc7223287770d550df337ddcf3022ff063822b253a356b95fc1576", func := "pairworks/pairworkslaw11.LendPlaced", spec := "lendPlaced", unfollowed := true, recurses := true, plainKeys := false, apart := false }
def LendPlacedSaid : Prop := lendPlacedRow.holds Try.pinned (OpenSpec.ofChange lendPlacedSpec)

/-- ITS FALSE NEIGHBOUR: 'it returns false'. Refute it at one input. -/
def lendPlacedWrong : ChangeSpec := { name := "lendPlaced", fn := fun _ => fun
  | [d] => { results := [.lit (.bool false)], args := [d] }
  | _ => none }
def LendPlacedWrongFalsely : Prop := lendPlacedRow.holds Try.pinned (OpenSpec.ofChange lendPlacedWrong)

/-- 'pairworkslaw11.LendWrongs': WHATEVER THE INPUT: true; the input reads as it did. -/
def lendWrongsSpec : ChangeSpec := { name := "lendWrongs", fn := fun _ => fun
  | [d] => { results := [.lit (.bool true)], args := [d] }
  | _ => none }
def lendWrongsRow : OpenClaim := { program := "ytlhobddaojdnoaa", sum := "a51eb52da1bc7223287770d550df337ddcf3022ff063822b253a356b95fc1576", func := "pairworks/pairworkslaw11.LendWrongs", spec := "lendWrongs", unfollowed := true, recurses := true, plainKeys := false, apart := false }
def LendWrongsSaid : Prop := lendWrongsRow.holds Try.pinned (OpenSpec.ofChange lendWrongsSpec)

/-- ITS FALSE NEIGHBOUR: 'it returns false'. Refute it at one input. -/
def lendWrongsWrong : ChangeSpec := { name := "lendWrongs", fn := fun _ => fun
  | [d] => { results := [.lit (.bool false)], args := [d] }
  | _ => none }
def LendWrongsWrongFalsely : Prop := lendWrongsRow.holds Try.pinned (OpenSpec.ofChange lendWrongsWrong)

/-- 'pairworkslaw11.LendNext': WHATEVER THE INPUT: true; the input reads as it did. -/
def lendNextSpec : ChangeSpec := { name := "lendNext", fn := fun _ => fun
  | [d1, d2] => { results := [.lit (.bool true)], args := [d1, d2] }
  | _ => none }
def lendNextRow : OpenClaim := { program := "ytlhobddaojdnoaa", sum := "a51eb52da1bc7223287770d550df337ddcf3022ff063822b253a356b95fc1576", func := "pairworks/pairworkslaw11.LendNext", spec := "lendNext", unfollowed := true, recurses := true, plainKeys := false, apart := false }
def LendNextSaid : Prop := lendNextRow.holds Try.pinned (OpenSpec.ofChange lendNextSpec)

/-- ITS FALSE NEIGHBOUR: 'it returns false'. Refute it at one input. -/
def lendNextWrong : ChangeSpec := { name := "lendNext", fn := fun _ => fun
  | [d1, d2] => { results := [.lit (.bool false)], args := [d1, d2] }
  | _ => none }
def LendNextWrongFalsely : Prop := lendNextRow.holds Try.pinned (OpenSpec.ofChange lendNextWrong)

/-- 'pairworkslaw11.LendMore': WHATEVER THE INPUT: true; the input reads as it did. -/
def lendMoreSpec : ChangeSpec := { name := "lendMore", fn := fun _ => fun
  | [d1, d2, d3] => { results := [.lit (.bool true)], args := [d1, d2, d3] }
  | _ => none }
def lendMoreRow : OpenClaim := { program := "ytlhobddaojdnoaa", sum := "a51eb52da1bc7223287770d550df337ddcf3022ff063822b253a356b95fc1576", func := "pairworks/pairworkslaw11.LendMore", spec := "lendMore", unfollowed := true, recurses := true, plainKeys := false, apart := false }
def LendMoreSaid : Prop := lendMoreRow.holds Try.pinned (OpenSpec.ofChange lendMoreSpec)

/-- ITS FALSE NEIGHBOUR: 'it returns false'. Refute it at one input. -/
def lendMoreWrong : ChangeSpec := { name := "lendMore", fn := fun _ => fun
  | [d1, d2, d3] => { results := [.lit (.bool false)], args := [d1, d2, d3] }
  | _ => none }
def LendMoreWrongFalsely : Prop := lendMoreRow.holds Try.pinned (OpenSpec.ofChange lendMoreWrong)

/-- 'pairworkslaw11.LendTurned': WHATEVER THE INPUT: true; the input reads as it did. -/
def lendTurnedSpec : ChangeSpec := { name := "lendTurned", fn := fun _ => fun
  | [d1, d2, d3, d4] => { results := [.lit (.bool true)], args := [d1, d2, d3, d4] }
  | _ => none }
def lendTurnedRow : OpenClaim := { program := "ytlhobddaojdnoaa", sum := "a51eb52da1bc7223287770d550df337ddcf3022ff063822b253a356b95fc1576", func := "pairworks/pairworkslaw11.LendTurned", spec := "lendTurned", unfollowed := true, recurses := true, plainKeys := false, apart := false }
def LendTurnedSaid : Prop := lendTurnedRow.holds Try.pinned (OpenSpec.ofChange lendTurnedSpec)

/-- ITS FALSE NEIGHBOUR: 'it returns false'. Refute it at one input. -/
def lendTurnedWrong : ChangeSpec := { name := "lendTurned", fn := fun _ => fun
  | [d1, d2, d3, d4] => { results := [.lit (.bool false)], args := [d1, d2, d3, d4] }
  | _ => none }
def LendTurnedWrongFalsely : Prop := lendTurnedRow.holds Try.pinned (OpenSpec.ofChange lendTurnedWrong)

/- THE SECOND FORM. 'bulk': how many values and letters a reading holds, each counted each time it is reached (what is shared counts as often as it is met; a slice's spare places count too). A statement '..UptoSaid' is the law's where the arguments, and the package variables that the reading takes, are together of bulk at most 1048576: NARROWER than '..Said'. Prove '..Said' where nothing that the law and all that it calls make is longer than what came in: it says more and counts as full. Else prove '..UptoSaid'. A law counts once. -/
mutual
def uptoBulk {H : Type} : DataW H → Nat
  | .lit (.string bytes) => bytes.length + 1
  | .lit _ => 1
  | .nil => 1
  | .ptr d => uptoBulk d + 1
  | .slice elems spare => uptoBulkAll elems + uptoBulkAll spare + 1
  | .agg parts => uptoBulkAll parts + 1
  | .iface _ d => uptoBulk d + 1
  | .map entries => uptoBulkEntries entries + 1
  | .held _ => 1
def uptoBulkAll {H : Type} : List (DataW H) → Nat
  | [] => 0
  | d :: r => uptoBulk d + uptoBulkAll r
def uptoBulkEntries {H : Type} : List (Lit × DataW H) → Nat
  | [] => 0
  | x :: r => uptoBulkEntry x + uptoBulkEntries r
def uptoBulkEntry {H : Type} : Lit × DataW H → Nat
  | (.string bytes, d) => bytes.length + uptoBulk d + 1
  | (_, d) => uptoBulk d + 1
 end
def uptoSmall : (H : Type) → List (DataW H) → Bool := fun _ ds => decide (uptoBulkAll ds ≤ 1048576)
def OpenSpec.upto (s : _root_.Go.ChangeSpec) : _root_.Go.OpenSpec := { _root_.Go.OpenSpec.ofChange s with cond := some uptoSmall }

/-- 'pairworkslaw11.LendPlaces', WHERE WHAT IT READS IS OF BULK AT MOST 1048576: true; the input reads as it did. -/
def lendPlacesUptoRow : OpenClaim := { program := "ytlhobddaojdnoaa", sum := "a51eb52da1bc7223287770d550df337ddcf3022ff063822b253a356b95fc1576", func := "pairworks/pairworkslaw11.LendPlaces", spec := "lendPlaces", unfollowed := true, recurses := true, plainKeys := false, apart := false, narrowed := true }
def LendPlacesUptoSaid : Prop := lendPlacesUptoRow.holds Try.pinned (OpenSpec.upto lendPlacesSpec)

/-- 'pairworkslaw11.LendBlames', WHERE WHAT IT READS IS OF BULK AT MOST 1048576: true; the input reads as it did. -/
def lendBlamesUptoRow : OpenClaim := { program := "ytlhobddaojdnoaa", sum := "a51eb52da1bc7223287770d550df337ddcf3022ff063822b253a356b95fc1576", func := "pairworks/pairworkslaw11.LendBlames", spec := "lendBlames", unfollowed := true, recurses := true, plainKeys := false, apart := false, narrowed := true }
def LendBlamesUptoSaid : Prop := lendBlamesUptoRow.holds Try.pinned (OpenSpec.upto lendBlamesSpec)

/-- 'pairworkslaw11.LendNames', WHERE WHAT IT READS IS OF BULK AT MOST 1048576: true; the input reads as it did. -/
def lendNamesUptoRow : OpenClaim := { program := "ytlhobddaojdnoaa", sum := "a51eb52da1bc7223287770d550df337ddcf3022ff063822b253a356b95fc1576", func := "pairworks/pairworkslaw11.LendNames", spec := "lendNames", unfollowed := true, recurses := true, plainKeys := false, apart := false, narrowed := true }
def LendNamesUptoSaid : Prop := lendNamesUptoRow.holds Try.pinned (OpenSpec.upto lendNamesSpec)

/-- 'pairworkslaw11.LendTrue', WHERE WHAT IT READS IS OF BULK AT MOST 1048576: true; the input reads as it did. -/
def lendTrueUptoRow : OpenClaim := { program := "ytlhobddaojdnoaa", sum := "a51eb52da1bc7223287770d550df337ddcf3022ff063822b253a356b95fc1576", func := "pairworks/pairworkslaw11.LendTrue", spec := "lendTrue", unfollowed := true, recurses := true, plainKeys := false, apart := false, narrowed := true }
def LendTrueUptoSaid : Prop := lendTrueUptoRow.holds Try.pinned (OpenSpec.upto lendTrueSpec)

/-- 'pairworkslaw11.LendPlaced', WHERE WHAT IT READS IS OF BULK AT MOST 1048576: true; the input reads as it did. -/
def lendPlacedUptoRow : OpenClaim := { program := "ytlhobddaojdnoaa", sum := "a51eb52da1bc7223287770d550df337ddcf3022ff063822b253a356b95fc1576", func := "pairworks/pairworkslaw11.LendPlaced", spec := "lendPlaced", unfollowed := true, recurses := true, plainKeys := false, apart := false, narrowed := true }
def LendPlacedUptoSaid : Prop := lendPlacedUptoRow.holds Try.pinned (OpenSpec.upto lendPlacedSpec)

/-- 'pairworkslaw11.LendWrongs', WHERE WHAT IT READS IS OF BULK AT MOST 1048576: true; the input reads as it did. -/
def lendWrongsUptoRow : OpenClaim := { program := "ytlhobddaojdnoaa", sum := "a51eb52da1bc7223287770d550df337ddcf3022ff063822b253a356b95fc1576", func := "pairworks/pairworkslaw11.LendWrongs", spec := "lendWrongs", unfollowed := true, recurses := true, plainKeys := false, apart := false, narrowed := true }
def LendWrongsUptoSaid : Prop := lendWrongsUptoRow.holds Try.pinned (OpenSpec.upto lendWrongsSpec)

/-- 'pairworkslaw11.LendNext', WHERE WHAT IT READS IS OF BULK AT MOST 1048576: true; the input reads as it did. -/
def lendNextUptoRow : OpenClaim := { program := "ytlhobddaojdnoaa", sum := "a51eb52da1bc7223287770d550df337ddcf3022ff063822b253a356b95fc1576", func := "pairworks/pairworkslaw11.LendNext", spec := "lendNext", unfollowed := true, recurses := true, plainKeys := false, apart := false, narrowed := true }
def LendNextUptoSaid : Prop := lendNextUptoRow.holds Try.pinned (OpenSpec.upto lendNextSpec)

/-- 'pairworkslaw11.LendMore', WHERE WHAT IT READS IS OF BULK AT MOST 1048576: true; the input reads as it did. -/
def lendMoreUptoRow : OpenClaim := { program := "ytlhobddaojdnoaa", sum := "a51eb52da1bc7223287770d550df337ddcf3022ff063822b253a356b95fc1576", func := "pairworks/pairworkslaw11.LendMore", spec := "lendMore", unfollowed := true, recurses := true, plainKeys := false, apart := false, narrowed := true }
def LendMoreUptoSaid : Prop := lendMoreUptoRow.holds Try.pinned (OpenSpec.upto lendMoreSpec)

/-- 'pairworkslaw11.LendTurned', WHERE WHAT IT READS IS OF BULK AT MOST 1048576: true; the input reads as it did. -/
def lendTurnedUptoRow : OpenClaim := { program := "ytlhobddaojdnoaa", sum := "a51eb52da1bc7223287770d550df337ddcf3022ff063822b253a356b95fc1576", func := "pairworks/pairworkslaw11.LendTurned", spec := "lendTurned", unfollowed := true, recurses := true, plainKeys := false, apart := false, narrowed := true }
def LendTurnedUptoSaid : Prop := lendTurnedUptoRow.holds Try.pinned (OpenSpec.upto lendTurnedSpec)

end Rows
end Go.Proofs.Ytlhobddaojdnoaa
