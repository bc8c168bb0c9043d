/-
  No cell of these rows narrows 'for every input' (looked for: loops, veiled, ifaces, maps, wideKeys, modest, calm, conditions, laid).
  DERIVED. THE GIVEN ROWS OF THIS SEAT. 9 by the template 'for every input the law returns true; each argument reads behind the call as it read before'; 0 by the template 'total and deterministic' (their statements: YtphefhpmbahagaaTotals.lean).
  GIVEN WITH THE SEED: the statements are not yours to turn. If you find one false, say at which input.
  Laid BY PROGRAM, IN A SANDBOX (cutbox-rows.mjs): the forced cells as the released guide's own fill.sh prints them over the translation c012fc17db9c1507… (all of the seat's roots in one cut). By AI agents, Wed Nov 11 2026. No macro, syntax, notation, axiom, sorry.
-/
import Derived.Test.YtphefhpmbahagaaChecked
import GoSem.Claim
import GoSem.ClaimJoined
import GoSem.ClaimMapViews
import Derived.JoinedTies
import Derived.KernelRfl
namespace Go.Proofs.Ytphefhpmbahagaa
/- THE CELL 'sum', in the pinned program and in every row, IS THE sha256 OF THE DUMP (.gsa) THAT YtphefhpmbahagaaProg.lean LOADS. Nothing in Lean hashes anything: it is a label: what it is worth is what the hold of that sum in a sandbox is worth. -/
noncomputable def Try.pinned : Pinned := { name := "ytphefhpmbahagaa", sum := "c012fc17db9c15076d9ea44c7125715732f7c61866f57d3d2929b2bf2794c590", checked := Try.checked }
namespace Rows
def none {H : Type} : Left H := { results := [], args := [] }

/-- 'pairworkslaw07.WalkOrders': WHATEVER THE INPUT: true; the input reads as it did. -/
def walkOrdersSpec : ChangeSpec := { name := "walkOrders", fn := fun _ => fun
  | [d1, d2] => { results := [.lit (.bool true)], args := [d1, d2] }
  | _ => none }
def walkOrdersRow : OpenClaim := { program := "ytphefhpmbahagaa", sum := "c012fc17db9c15076d9ea44c7125715732f7c61866f57d3d2929b2bf2794c590", func := "pairworks/pairworkslaw07.WalkOrders", spec := "walkOrders", unfollowed := true, recurses := true, plainKeys := false, apart := false }
def WalkOrdersSaid : Prop := walkOrdersRow.holds Try.pinned (OpenSpec.ofChange walkOrdersSpec)

/-- ITS FALSE NEIGHBOUR: 'it returns false'. Refute it at one input. -/
def walkOrdersWrong : ChangeSpec := { name := "walkOrders", fn := fun _ => fun
  | [d1, d2] => { results := [.lit (.bool false)], args := [d1, d2] }
  | _ => none }
def WalkOrdersWrongFalsely : Prop := walkOrdersRow.holds Try.pinned (OpenSpec.ofChange walkOrdersWrong)

/-- 'pairworkslaw07.WalkTours': WHATEVER THE INPUT: true; the input reads as it did. -/
def walkToursSpec : ChangeSpec := { name := "walkTours", fn := fun _ => fun
  | [d1, d2, d3] => { results := [.lit (.bool true)], args := [d1, d2, d3] }
  | _ => none }
def walkToursRow : OpenClaim := { program := "ytphefhpmbahagaa", sum := "c012fc17db9c15076d9ea44c7125715732f7c61866f57d3d2929b2bf2794c590", func := "pairworks/pairworkslaw07.WalkTours", spec := "walkTours", unfollowed := true, recurses := true, plainKeys := false, apart := false }
def WalkToursSaid : Prop := walkToursRow.holds Try.pinned (OpenSpec.ofChange walkToursSpec)

/-- ITS FALSE NEIGHBOUR: 'it returns false'. Refute it at one input. -/
def walkToursWrong : ChangeSpec := { name := "walkTours", fn := fun _ => fun
  | [d1, d2, d3] => { results := [.lit (.bool false)], args := [d1, d2, d3] }
  | _ => none }
def WalkToursWrongFalsely : Prop := walkToursRow.holds Try.pinned (OpenSpec.ofChange walkToursWrong)

/-- 'pairworkslaw07.WalkNames': WHATEVER THE INPUT: true; the input reads as it did. -/
def walkNamesSpec : ChangeSpec := { name := "walkNames", fn := fun _ => fun
  | [] => { results := [.lit (.bool true)], args := [] }
  | _ => none }
def walkNamesRow : OpenClaim := { program := "ytphefhpmbahagaa", sum := "c012fc17db9c15076d9ea44c7125715732f7c61866f57d3d2929b2bf2794c590", func := "pairworks/pairworkslaw07.WalkNames", spec := "walkNames", unfollowed := true, recurses := true, plainKeys := false, apart := false }
def WalkNamesSaid : Prop := walkNamesRow.holds Try.pinned (OpenSpec.ofChange walkNamesSpec)

/-- ITS FALSE NEIGHBOUR: 'it returns false'. Refute it at one input. -/
def walkNamesWrong : ChangeSpec := { name := "walkNames", fn := fun _ => fun
  | [] => { results := [.lit (.bool false)], args := [] }
  | _ => none }
def WalkNamesWrongFalsely : Prop := walkNamesRow.holds Try.pinned (OpenSpec.ofChange walkNamesWrong)

/-- 'pairworkslaw07.WalkTrue': WHATEVER THE INPUT: true; the input reads as it did. -/
def walkTrueSpec : ChangeSpec := { name := "walkTrue", fn := fun _ => fun
  | [d1, d2, d3] => { results := [.lit (.bool true)], args := [d1, d2, d3] }
  | _ => none }
def walkTrueRow : OpenClaim := { program := "ytphefhpmbahagaa", sum := "c012fc17db9c15076d9ea44c7125715732f7c61866f57d3d2929b2bf2794c590", func := "pairworks/pairworkslaw07.WalkTrue", spec := "walkTrue", unfollowed := true, recurses := true, plainKeys := false, apart := false }
def WalkTrueSaid : Prop := walkTrueRow.holds Try.pinned (OpenSpec.ofChange walkTrueSpec)

/-- ITS FALSE NEIGHBOUR: 'it returns false'. Refute it at one input. -/
def walkTrueWrong : ChangeSpec := { name := "walkTrue", fn := fun _ => fun
  | [d1, d2, d3] => { results := [.lit (.bool false)], args := [d1, d2, d3] }
  | _ => none }
def WalkTrueWrongFalsely : Prop := walkTrueRow.holds Try.pinned (OpenSpec.ofChange walkTrueWrong)

/-- 'pairworkslaw07.WalkShortest': WHATEVER THE INPUT: true; the input reads as it did. -/
def walkShortestSpec : ChangeSpec := { name := "walkShortest", fn := fun _ => fun
  | [d1, d2] => { results := [.lit (.bool true)], args := [d1, d2] }
  | _ => none }
def walkShortestRow : OpenClaim := { program := "ytphefhpmbahagaa", sum := "c012fc17db9c15076d9ea44c7125715732f7c61866f57d3d2929b2bf2794c590", func := "pairworks/pairworkslaw07.WalkShortest", spec := "walkShortest", unfollowed := true, recurses := true, plainKeys := false, apart := false }
def WalkShortestSaid : Prop := walkShortestRow.holds Try.pinned (OpenSpec.ofChange walkShortestSpec)

/-- ITS FALSE NEIGHBOUR: 'it returns false'. Refute it at one input. -/
def walkShortestWrong : ChangeSpec := { name := "walkShortest", fn := fun _ => fun
  | [d1, d2] => { results := [.lit (.bool false)], args := [d1, d2] }
  | _ => none }
def WalkShortestWrongFalsely : Prop := walkShortestRow.holds Try.pinned (OpenSpec.ofChange walkShortestWrong)

/-- 'pairworkslaw07.WalkMost': WHATEVER THE INPUT: true; the input reads as it did. -/
def walkMostSpec : ChangeSpec := { name := "walkMost", fn := fun _ => fun
  | [d1, d2, d3] => { results := [.lit (.bool true)], args := [d1, d2, d3] }
  | _ => none }
def walkMostRow : OpenClaim := { program := "ytphefhpmbahagaa", sum := "c012fc17db9c15076d9ea44c7125715732f7c61866f57d3d2929b2bf2794c590", func := "pairworks/pairworkslaw07.WalkMost", spec := "walkMost", unfollowed := true, recurses := true, plainKeys := false, apart := false }
def WalkMostSaid : Prop := walkMostRow.holds Try.pinned (OpenSpec.ofChange walkMostSpec)

/-- ITS FALSE NEIGHBOUR: 'it returns false'. Refute it at one input. -/
def walkMostWrong : ChangeSpec := { name := "walkMost", fn := fun _ => fun
  | [d1, d2, d3] => { results := [.lit (.bool false)], args := [d1, d2, d3] }
  | _ => none }
def WalkMostWrongFalsely : Prop := walkMostRow.holds Try.pinned (OpenSpec.ofChange walkMostWrong)

/-- 'pairworkslaw07.WalkLater': WHATEVER THE INPUT: true; the input reads as it did. -/
def walkLaterSpec : ChangeSpec := { name := "walkLater", fn := fun _ => fun
  | [d1, d2, d3, d4] => { results := [.lit (.bool true)], args := [d1, d2, d3, d4] }
  | _ => none }
def walkLaterRow : OpenClaim := { program := "ytphefhpmbahagaa", sum := "c012fc17db9c15076d9ea44c7125715732f7c61866f57d3d2929b2bf2794c590", func := "pairworks/pairworkslaw07.WalkLater", spec := "walkLater", unfollowed := true, recurses := true, plainKeys := false, apart := false }
def WalkLaterSaid : Prop := walkLaterRow.holds Try.pinned (OpenSpec.ofChange walkLaterSpec)

/-- ITS FALSE NEIGHBOUR: 'it returns false'. Refute it at one input. -/
def walkLaterWrong : ChangeSpec := { name := "walkLater", fn := fun _ => fun
  | [d1, d2, d3, d4] => { results := [.lit (.bool false)], args := [d1, d2, d3, d4] }
  | _ => none }
def WalkLaterWrongFalsely : Prop := walkLaterRow.holds Try.pinned (OpenSpec.ofChange walkLaterWrong)

/-- 'pairworkslaw07.WalkMore': WHATEVER THE INPUT: true; the input reads as it did. -/
def walkMoreSpec : ChangeSpec := { name := "walkMore", fn := fun _ => fun
  | [d1, d2, d3, d4] => { results := [.lit (.bool true)], args := [d1, d2, d3, d4] }
  | _ => none }
def walkMoreRow : OpenClaim := { program := "ytphefhpmbahagaa", sum := "c012fc17db9c15076d9ea44c7125715732f7c61866f57d3d2929b2bf2794c590", func := "pairworks/pairworkslaw07.WalkMore", spec := "walkMore", unfollowed := true, recurses := true, plainKeys := false, apart := false }
def WalkMoreSaid : Prop := walkMoreRow.holds Try.pinned (OpenSpec.ofChange walkMoreSpec)

/-- ITS FALSE NEIGHBOUR: 'it returns false'. Refute it at one input. -/
def walkMoreWrong : ChangeSpec := { name := "walkMore", fn := fun _ => fun
  | [d1, d2, d3, d4] => { results := [.lit (.bool false)], args := [d1, d2, d3, d4] }
  | _ => none }
def WalkMoreWrongFalsely : Prop := walkMoreRow.holds Try.pinned (OpenSpec.ofChange walkMoreWrong)

/-- 'pairworkslaw07.WalkTurned': WHATEVER THE INPUT: true; the input reads as it did. -/
def walkTurnedSpec : ChangeSpec := { name := "walkTurned", fn := fun _ => fun
  | [d1, d2, d3] => { results := [.lit (.bool true)], args := [d1, d2, d3] }
  | _ => none }
def walkTurnedRow : OpenClaim := { program := "ytphefhpmbahagaa", sum := "c012fc17db9c15076d9ea44c7125715732f7c61866f57d3d2929b2bf2794c590", func := "pairworks/pairworkslaw07.WalkTurned", spec := "walkTurned", unfollowed := true, recurses := true, plainKeys := false, apart := false }
def WalkTurnedSaid : Prop := walkTurnedRow.holds Try.pinned (OpenSpec.ofChange walkTurnedSpec)

/-- ITS FALSE NEIGHBOUR: 'it returns false'. Refute it at one input. -/
def walkTurnedWrong : ChangeSpec := { name := "walkTurned", fn := fun _ => fun
  | [d1, d2, d3] => { results := [.lit (.bool false)], args := [d1, d2, d3] }
  | _ => none }
def WalkTurnedWrongFalsely : Prop := walkTurnedRow.holds Try.pinned (OpenSpec.ofChange walkTurnedWrong)

/- THE SECOND FORM. 'bulk': how many values and letters a reading holds, each counted each time it is reached (what is shared counts as often as it is met; a slice's spare places count too). A statement '..UptoSaid' is the law's where the arguments, and the package variables that the reading takes, are together of bulk at most 1048576: NARROWER than '..Said'. Prove '..Said' where nothing that the law and all that it calls make is longer than what came in: it says more and counts as full. Else prove '..UptoSaid'. A law counts once. -/
mutual
def uptoBulk {H : Type} : DataW H → Nat
  | .lit (.string bytes) => bytes.length + 1
  | .lit _ => 1
  | .nil => 1
  | .ptr d => uptoBulk d + 1
  | .slice elems spare => uptoBulkAll elems + uptoBulkAll spare + 1
  | .agg parts => uptoBulkAll parts + 1
  | .iface _ d => uptoBulk d + 1
  | .map entries => uptoBulkEntries entries + 1
  | .held _ => 1
def uptoBulkAll {H : Type} : List (DataW H) → Nat
  | [] => 0
  | d :: r => uptoBulk d + uptoBulkAll r
def uptoBulkEntries {H : Type} : List (Lit × DataW H) → Nat
  | [] => 0
  | x :: r => uptoBulkEntry x + uptoBulkEntries r
def uptoBulkEntry {H : Type} : Lit × DataW H → Nat
  | (.string bytes, d) => bytes.length + uptoBulk d + 1
  | (_, d) => uptoBulk d + 1
 end
def uptoSmall : (H : Type) → List (DataW H) → Bool := fun _ ds => decide (uptoBulkAll ds ≤ 1048576)
def OpenSpec.upto (s : _root_.Go.ChangeSpec) : _root_.Go.OpenSpec := { _root_.Go.OpenSpec.ofChange s with cond := some uptoSmall }

/-- 'pairworkslaw07.WalkOrders', WHERE WHAT IT READS IS OF BULK AT MOST 1048576: true; the input reads as it did. -/
def walkOrdersUptoRow : OpenClaim := { program := "ytphefhpmbahagaa", sum := "c012fc17db9c15076d9ea44c7125715732f7c61866f57d3d2929b2bf2794c590", func := "pairworks/pairworkslaw07.WalkOrders", spec := "walkOrders", unfollowed := true, recurses := true, plainKeys := false, apart := false, narrowed := true }
def WalkOrdersUptoSaid : Prop := walkOrdersUptoRow.holds Try.pinned (OpenSpec.upto walkOrdersSpec)

/-- 'pairworkslaw07.WalkTours', WHERE WHAT IT READS IS OF BULK AT MOST 1048576: true; the input reads as it did. -/
def walkToursUptoRow : OpenClaim := { program := "ytphefhpmbahagaa", sum := "c012fc17db9c15076d9ea44c7125715732f7c61866f57d3d2929b2bf2794c590", func := "pairworks/pairworkslaw07.WalkTours", spec := "walkTours", unfollowed := true, recurses := true, plainKeys := false, apart := false, narrowed := true }
def WalkToursUptoSaid : Prop := walkToursUptoRow.holds Try.pinned (OpenSpec.upto walkToursSpec)

/-- 'pairworkslaw07.WalkNames', WHERE WHAT IT READS IS OF BULK AT MOST 1048576: true; the input reads as it did. -/
def walkNamesUptoRow : OpenClaim := { program := "ytphefhpmbahagaa", sum := "c012fc17db9c15076d9ea44c7125715732f7c61866f57d3d2929b2bf2794c590", func := "pairworks/pairworkslaw07.WalkNames", spec := "walkNames", unfollowed := true, recurses := true, plainKeys := false, apart := false, narrowed := true }
def WalkNamesUptoSaid : Prop := walkNamesUptoRow.holds Try.pinned (OpenSpec.upto walkNamesSpec)

/-- 'pairworkslaw07.WalkTrue', WHERE WHAT IT READS IS OF BULK AT MOST 1048576: true; the input reads as it did. -/
def walkTrueUptoRow : OpenClaim := { program := "ytphefhpmbahagaa", sum := "c012fc17db9c15076d9ea44c7125715732f7c61866f57d3d2929b2bf2794c590", func := "pairworks/pairworkslaw07.WalkTrue", spec := "walkTrue", unfollowed := true, recurses := true, plainKeys := false, apart := false, narrowed := true }
def WalkTrueUptoSaid : Prop := walkTrueUptoRow.holds Try.pinned (OpenSpec.upto walkTrueSpec)

/-- 'pairworkslaw07.WalkShortest', WHERE WHAT IT READS IS OF BULK AT MOST 1048576: true; the input reads as it did. -/
def walkShortestUptoRow : OpenClaim := { program := "ytphefhpmbahagaa", sum := "c012fc17db9c15076d9ea44c7125715732f7c61866f57d3d2929b2bf2794c590", func := "pairworks/pairworkslaw07.WalkShortest", spec := "walkShortest", unfollowed := true, recurses := true, plainKeys := false, apart := false, narrowed := true }
def WalkShortestUptoSaid : Prop := walkShortestUptoRow.holds Try.pinned (OpenSpec.upto walkShortestSpec)

/-- 'pairworkslaw07.WalkMost', WHERE WHAT IT READS IS OF BULK AT MOST 1048576: true; the input reads as it did. -/
def walkMostUptoRow : OpenClaim := { program := "ytphefhpmbahagaa", sum := "c012fc17db9c15076d9ea44c7125715732f7c61866f57d3d2929b2bf2794c590", func := "pairworks/pairworkslaw07.WalkMost", spec := "walkMost", unfollowed := true, recurses := true, plainKeys := false, apart := false, narrowed := true }
def WalkMostUptoSaid : Prop := walkMostUptoRow.holds Try.pinned (OpenSpec.upto walkMostSpec)

/-- 'pairworkslaw07.WalkLater', WHERE WHAT IT READS IS OF BULK AT MOST 1048576: true; the input reads as it did. -/
def walkLaterUptoRow : OpenClaim := { program := "ytphefhpmbahagaa", sum := "c012fc17db9c15076d9ea44c7125715732f7c61866f57d3d2929b2bf2794c590", func := "pairworks/pairworkslaw07.WalkLater", spec := "walkLater", unfollowed := true, recurses := true, plainKeys := false, apart := false, narrowed := true }
def WalkLaterUptoSaid : Prop := walkLaterUptoRow.holds Try.pinned (OpenSpec.upto walkLaterSpec)

/-- 'pairworkslaw07.WalkMore', WHERE WHAT IT READS IS OF BULK AT MOST 1048576: true; the input reads as it did. -/
def walkMoreUptoRow : OpenClaim := { program := "ytphefhpmbahagaa", sum := "c012fc17db9c15076d9ea44c7125715732f7c61866f57d3d2929b2bf2794c590", func := "pairworks/pairworkslaw07.WalkMore", spec := "walkMore", unfollowed := true, recurses := true, plainKeys := false, apart := false, narrowed := true }
def WalkMoreUptoSaid : Prop := walkMoreUptoRow.holds Try.pinned (OpenSpec.upto walkMoreSpec)

/-- 'pairworkslaw07.WalkTurned', WHERE WHAT IT READS IS OF BULK AT MOST 1048576: true; the input reads as it did. -/
def walkTurnedUptoRow : OpenClaim := { program := "ytphefhpmbahagaa", sum := "c012fc17db9c15076d9ea44c7125715732f7c61866f57d3d2929b2bf2794c590", func := "pairworks/pairworkslaw07.WalkTurned", spec := "walkTurned", unfollowed := true, recurses := true, plainKeys := false, apart := false, narrowed := true }
def WalkTurnedUptoSaid : Prop := walkTurnedUptoRow.holds Try.pinned (OpenSpec.upto walkTurnedSpec)

end Rows
end Go.Proofs.Ytphefhpmbahagaa
