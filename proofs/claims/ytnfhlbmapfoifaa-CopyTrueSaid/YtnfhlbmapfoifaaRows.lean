/-
  No cell of these rows narrows 'for every input' (looked for: loops, veiled, ifaces, maps, wideKeys, modest, calm, conditions, laid).
  DERIVED. THE GIVEN ROWS OF THIS SEAT. 10 by the template 'for every input the law returns true; each argument reads behind the call as it read before'; 0 by the template 'total and deterministic' (their statements: YtnfhlbmapfoifaaTotals.lean).
  GIVEN WITH THE SEED: the statements are not yours to turn. If you find one false, say at which input.
  Laid BY PROGRAM, IN A SANDBOX (cutbox-rows.mjs): the forced cells as the released guide's own fill.sh prints them over the translation c777274b595bd0f9… (all of the seat's roots in one cut). By AI agents, Wed Nov 11 2026. No macro, syntax, notation, axiom, sorry.
-/
import Derived.Test.YtnfhlbmapfoifaaChecked
import GoSem.Claim
import GoSem.ClaimJoined
import GoSem.ClaimMapViews
import Derived.JoinedTies
import Derived.KernelRfl
namespace Go.Proofs.Ytnfhlbmapfoifaa
/- THE CELL 'sum', in the pinned program and in every row, IS THE sha256 OF THE DUMP (.gsa) THAT YtnfhlbmapfoifaaProg.lean LOADS. Nothing in Lean hashes anything: it is a label: what it is worth is what the hold of that sum in a sandbox is worth. -/
noncomputable def Try.pinned : Pinned := { name := "ytnfhlbmapfoifaa", sum := "c777274b595bd0f95fa33eb293f8867e0240b09ae220dd12c4938131c345d826", checked := Try.checked }
namespace Rows
def none {H : Type} : Left H := { results := [], args := [] }

/-- 'pairworkslaw08.CopyOrders': WHATEVER THE INPUT: true; the input reads as it did. -/
def copyOrdersSpec : ChangeSpec := { name := "copyOrders", fn := fun _ => fun
  | [d1, d2, d3] => { results := [.lit (.bool true)], args := [d1, d2, d3] }
  | _ => none }
def copyOrdersRow : OpenClaim := { program := "ytnfhlbmapfoifaa", sum := "c777274b595bd0f95fa33eb293f8867e0240b09ae220dd12c4938131c345d826", func := "pairworks/pairworkslaw08.CopyOrders", spec := "copyOrders", unfollowed := true, recurses := true, plainKeys := false, apart := false }
def CopyOrdersSaid : Prop := copyOrdersRow.holds Try.pinned (OpenSpec.ofChange copyOrdersSpec)

/-- ITS FALSE NEIGHBOUR: 'it returns false'. Refute it at one input. -/
def copyOrdersWrong : ChangeSpec := { name := "copyOrders", fn := fun _ => fun
  | [d1, d2, d3] => { results := [.lit (.bool false)], args := [d1, d2, d3] }
  | _ => none }
def CopyOrdersWrongFalsely : Prop := copyOrdersRow.holds Try.pinned (OpenSpec.ofChange copyOrdersWrong)

/-- 'pairworkslaw08.CopyNeeds': WHATEVER THE INPUT: true; the input reads as it did. -/
def copyNeedsSpec : ChangeSpec := { name := "copyNeeds", fn := fun _ => fun
  | [d] => { results := [.lit (.bool true)], args := [d] }
  | _ => none }
def copyNeedsRow : OpenClaim := { program := "ytnfhlbmapfoifaa", sum := "c777274b595bd0f95fa33eb293f8867e0240b09ae220dd12c4938131c345d826", func := "pairworks/pairworkslaw08.CopyNeeds", spec := "copyNeeds", unfollowed := true, recurses := true, plainKeys := false, apart := false }
def CopyNeedsSaid : Prop := copyNeedsRow.holds Try.pinned (OpenSpec.ofChange copyNeedsSpec)

/-- ITS FALSE NEIGHBOUR: 'it returns false'. Refute it at one input. -/
def copyNeedsWrong : ChangeSpec := { name := "copyNeeds", fn := fun _ => fun
  | [d] => { results := [.lit (.bool false)], args := [d] }
  | _ => none }
def CopyNeedsWrongFalsely : Prop := copyNeedsRow.holds Try.pinned (OpenSpec.ofChange copyNeedsWrong)

/-- 'pairworkslaw08.CopyChain': WHATEVER THE INPUT: true; the input reads as it did. -/
def copyChainSpec : ChangeSpec := { name := "copyChain", fn := fun _ => fun
  | [d1, d2] => { results := [.lit (.bool true)], args := [d1, d2] }
  | _ => none }
def copyChainRow : OpenClaim := { program := "ytnfhlbmapfoifaa", sum := "c777274b595bd0f95fa33eb293f8867e0240b09ae220dd12c4938131c345d826", func := "pairworks/pairworkslaw08.CopyChain", spec := "copyChain", unfollowed := true, recurses := true, plainKeys := false, apart := false }
def CopyChainSaid : Prop := copyChainRow.holds Try.pinned (OpenSpec.ofChange copyChainSpec)

/-- ITS FALSE NEIGHBOUR: 'it returns false'. Refute it at one input. -/
def copyChainWrong : ChangeSpec := { name := "copyChain", fn := fun _ => fun
  | [d1, d2] => { results := [.lit (.bool false)], args := [d1, d2] }
  | _ => none }
def CopyChainWrongFalsely : Prop := copyChainRow.holds Try.pinned (OpenSpec.ofChange copyChainWrong)

/-- 'pairworkslaw08.CopyCompare': WHATEVER THE INPUT: true; the input reads as it did. -/
def copyCompareSpec : ChangeSpec := { name := "copyCompare", fn := fun _ => fun
  | [d1, d2, d3] => { results := [.lit (.bool true)], args := [d1, d2, d3] }
  | _ => none }
def copyCompareRow : OpenClaim := { program := "ytnfhlbmapfoifaa", sum := "c777274b595bd0f95fa33eb293f8867e0240b09ae220dd12c4938131c345d826", func := "pairworks/pairworkslaw08.CopyCompare", spec := "copyCompare", unfollowed := true, recurses := true, plainKeys := false, apart := false }
def CopyCompareSaid : Prop := copyCompareRow.holds Try.pinned (OpenSpec.ofChange copyCompareSpec)

/-- ITS FALSE NEIGHBOUR: 'it returns false'. Refute it at one input. -/
def copyCompareWrong : ChangeSpec := { name := "copyCompare", fn := fun _ => fun
  | [d1, d2, d3] => { results := [.lit (.bool false)], args := [d1, d2, d3] }
  | _ => none }
def CopyCompareWrongFalsely : Prop := copyCompareRow.holds Try.pinned (OpenSpec.ofChange copyCompareWrong)

/-- 'pairworkslaw08.CopyMore': WHATEVER THE INPUT: true; the input reads as it did. -/
def copyMoreSpec : ChangeSpec := { name := "copyMore", fn := fun _ => fun
  | [d1, d2, d3] => { results := [.lit (.bool true)], args := [d1, d2, d3] }
  | _ => none }
def copyMoreRow : OpenClaim := { program := "ytnfhlbmapfoifaa", sum := "c777274b595bd0f95fa33eb293f8867e0240b09ae220dd12c4938131c345d826", func := "pairworks/pairworkslaw08.CopyMore", spec := "copyMore", unfollowed := true, recurses := true, plainKeys := false, apart := false }
def CopyMoreSaid : Prop := copyMoreRow.holds Try.pinned (OpenSpec.ofChange copyMoreSpec)

/-- ITS FALSE NEIGHBOUR: 'it returns false'. Refute it at one input. -/
def copyMoreWrong : ChangeSpec := { name := "copyMore", fn := fun _ => fun
  | [d1, d2, d3] => { results := [.lit (.bool false)], args := [d1, d2, d3] }
  | _ => none }
def CopyMoreWrongFalsely : Prop := copyMoreRow.holds Try.pinned (OpenSpec.ofChange copyMoreWrong)

/-- 'pairworkslaw08.CopyWays': WHATEVER THE INPUT: true; the input reads as it did. -/
def copyWaysSpec : ChangeSpec := { name := "copyWays", fn := fun _ => fun
  | [d1, d2, d3] => { results := [.lit (.bool true)], args := [d1, d2, d3] }
  | _ => none }
def copyWaysRow : OpenClaim := { program := "ytnfhlbmapfoifaa", sum := "c777274b595bd0f95fa33eb293f8867e0240b09ae220dd12c4938131c345d826", func := "pairworks/pairworkslaw08.CopyWays", spec := "copyWays", unfollowed := true, recurses := true, plainKeys := false, apart := false }
def CopyWaysSaid : Prop := copyWaysRow.holds Try.pinned (OpenSpec.ofChange copyWaysSpec)

/-- ITS FALSE NEIGHBOUR: 'it returns false'. Refute it at one input. -/
def copyWaysWrong : ChangeSpec := { name := "copyWays", fn := fun _ => fun
  | [d1, d2, d3] => { results := [.lit (.bool false)], args := [d1, d2, d3] }
  | _ => none }
def CopyWaysWrongFalsely : Prop := copyWaysRow.holds Try.pinned (OpenSpec.ofChange copyWaysWrong)

/-- 'pairworkslaw08.CopyNames': WHATEVER THE INPUT: true; the input reads as it did. -/
def copyNamesSpec : ChangeSpec := { name := "copyNames", fn := fun _ => fun
  | [] => { results := [.lit (.bool true)], args := [] }
  | _ => none }
def copyNamesRow : OpenClaim := { program := "ytnfhlbmapfoifaa", sum := "c777274b595bd0f95fa33eb293f8867e0240b09ae220dd12c4938131c345d826", func := "pairworks/pairworkslaw08.CopyNames", spec := "copyNames", unfollowed := true, recurses := true, plainKeys := false, apart := false }
def CopyNamesSaid : Prop := copyNamesRow.holds Try.pinned (OpenSpec.ofChange copyNamesSpec)

/-- ITS FALSE NEIGHBOUR: 'it returns false'. Refute it at one input. -/
def copyNamesWrong : ChangeSpec := { name := "copyNames", fn := fun _ => fun
  | [] => { results := [.lit (.bool false)], args := [] }
  | _ => none }
def CopyNamesWrongFalsely : Prop := copyNamesRow.holds Try.pinned (OpenSpec.ofChange copyNamesWrong)

/-- 'pairworkslaw08.CopyTrue': WHATEVER THE INPUT: true; the input reads as it did. -/
def copyTrueSpec : ChangeSpec := { name := "copyTrue", fn := fun _ => fun
  | [d1, d2] => { results := [.lit (.bool true)], args := [d1, d2] }
  | _ => none }
def copyTrueRow : OpenClaim := { program := "ytnfhlbmapfoifaa", sum := "c777274b595bd0f95fa33eb293f8867e0240b09ae220dd12c4938131c345d826", func := "pairworks/pairworkslaw08.CopyTrue", spec := "copyTrue", unfollowed := true, recurses := true, plainKeys := false, apart := false }
def CopyTrueSaid : Prop := copyTrueRow.holds Try.pinned (OpenSpec.ofChange copyTrueSpec)

/-- ITS FALSE NEIGHBOUR: 'it returns false'. Refute it at one input. -/
def copyTrueWrong : ChangeSpec := { name := "copyTrue", fn := fun _ => fun
  | [d1, d2] => { results := [.lit (.bool false)], args := [d1, d2] }
  | _ => none }
def CopyTrueWrongFalsely : Prop := copyTrueRow.holds Try.pinned (OpenSpec.ofChange copyTrueWrong)

/-- 'pairworkslaw08.CopyFewest': WHATEVER THE INPUT: true; the input reads as it did. -/
def copyFewestSpec : ChangeSpec := { name := "copyFewest", fn := fun _ => fun
  | [d1, d2] => { results := [.lit (.bool true)], args := [d1, d2] }
  | _ => none }
def copyFewestRow : OpenClaim := { program := "ytnfhlbmapfoifaa", sum := "c777274b595bd0f95fa33eb293f8867e0240b09ae220dd12c4938131c345d826", func := "pairworks/pairworkslaw08.CopyFewest", spec := "copyFewest", unfollowed := true, recurses := true, plainKeys := false, apart := false }
def CopyFewestSaid : Prop := copyFewestRow.holds Try.pinned (OpenSpec.ofChange copyFewestSpec)

/-- ITS FALSE NEIGHBOUR: 'it returns false'. Refute it at one input. -/
def copyFewestWrong : ChangeSpec := { name := "copyFewest", fn := fun _ => fun
  | [d1, d2] => { results := [.lit (.bool false)], args := [d1, d2] }
  | _ => none }
def CopyFewestWrongFalsely : Prop := copyFewestRow.holds Try.pinned (OpenSpec.ofChange copyFewestWrong)

/-- 'pairworkslaw08.CopyTurned': WHATEVER THE INPUT: true; the input reads as it did. -/
def copyTurnedSpec : ChangeSpec := { name := "copyTurned", fn := fun _ => fun
  | [d1, d2] => { results := [.lit (.bool true)], args := [d1, d2] }
  | _ => none }
def copyTurnedRow : OpenClaim := { program := "ytnfhlbmapfoifaa", sum := "c777274b595bd0f95fa33eb293f8867e0240b09ae220dd12c4938131c345d826", func := "pairworks/pairworkslaw08.CopyTurned", spec := "copyTurned", unfollowed := true, recurses := true, plainKeys := false, apart := false }
def CopyTurnedSaid : Prop := copyTurnedRow.holds Try.pinned (OpenSpec.ofChange copyTurnedSpec)

/-- ITS FALSE NEIGHBOUR: 'it returns false'. Refute it at one input. -/
def copyTurnedWrong : ChangeSpec := { name := "copyTurned", fn := fun _ => fun
  | [d1, d2] => { results := [.lit (.bool false)], args := [d1, d2] }
  | _ => none }
def CopyTurnedWrongFalsely : Prop := copyTurnedRow.holds Try.pinned (OpenSpec.ofChange copyTurnedWrong)

/- THE SECOND FORM. 'bulk': how many values and letters a reading holds, each counted each time it is reached (what is shared counts as often as it is met; a slice's spare places count too). A statement '..UptoSaid' is the law's where the arguments, and the package variables that the reading takes, are together of bulk at most 1048576: NARROWER than '..Said'. Prove '..Said' where nothing that the law and all that it calls make is longer than what came in: it says more and counts as full. Else prove '..UptoSaid'. A law counts once. -/
mutual
def uptoBulk {H : Type} : DataW H → Nat
  | .lit (.string bytes) => bytes.length + 1
  | .lit _ => 1
  | .nil => 1
  | .ptr d => uptoBulk d + 1
  | .slice elems spare => uptoBulkAll elems + uptoBulkAll spare + 1
  | .agg parts => uptoBulkAll parts + 1
  | .iface _ d => uptoBulk d + 1
  | .map entries => uptoBulkEntries entries + 1
  | .held _ => 1
def uptoBulkAll {H : Type} : List (DataW H) → Nat
  | [] => 0
  | d :: r => uptoBulk d + uptoBulkAll r
def uptoBulkEntries {H : Type} : List (Lit × DataW H) → Nat
  | [] => 0
  | x :: r => uptoBulkEntry x + uptoBulkEntries r
def uptoBulkEntry {H : Type} : Lit × DataW H → Nat
  | (.string bytes, d) => bytes.length + uptoBulk d + 1
  | (_, d) => uptoBulk d + 1
 end
def uptoSmall : (H : Type) → List (DataW H) → Bool := fun _ ds => decide (uptoBulkAll ds ≤ 1048576)
def OpenSpec.upto (s : _root_.Go.ChangeSpec) : _root_.Go.OpenSpec := { _root_.Go.OpenSpec.ofChange s with cond := some uptoSmall }

/-- 'pairworkslaw08.CopyOrders', WHERE WHAT IT READS IS OF BULK AT MOST 1048576: true; the input reads as it did. -/
def copyOrdersUptoRow : OpenClaim := { program := "ytnfhlbmapfoifaa", sum := "c777274b595bd0f95fa33eb293f8867e0240b09ae220dd12c4938131c345d826", func := "pairworks/pairworkslaw08.CopyOrders", spec := "copyOrders", unfollowed := true, recurses := true, plainKeys := false, apart := false, narrowed := true }
def CopyOrdersUptoSaid : Prop := copyOrdersUptoRow.holds Try.pinned (OpenSpec.upto copyOrdersSpec)

/-- 'pairworkslaw08.CopyNeeds', WHERE WHAT IT READS IS OF BULK AT MOST 1048576: true; the input reads as it did. -/
def copyNeedsUptoRow : OpenClaim := { program := "ytnfhlbmapfoifaa", sum := "c777274b595bd0f95fa33eb293f8867e0240b09ae220dd12c4938131c345d826", func := "pairworks/pairworkslaw08.CopyNeeds", spec := "copyNeeds", unfollowed := true, recurses := true, plainKeys := false, apart := false, narrowed := true }
def CopyNeedsUptoSaid : Prop := copyNeedsUptoRow.holds Try.pinned (OpenSpec.upto copyNeedsSpec)

/-- 'pairworkslaw08.CopyChain', WHERE WHAT IT READS IS OF BULK AT MOST 1048576: true; the input reads as it did. -/
def copyChainUptoRow : OpenClaim := { program := "ytnfhlbmapfoifaa", sum := "c777274b595bd0f95fa33eb293f8867e0240b09ae220dd12c4938131c345d826", func := "pairworks/pairworkslaw08.CopyChain", spec := "copyChain", unfollowed := true, recurses := true, plainKeys := false, apart := false, narrowed := true }
def CopyChainUptoSaid : Prop := copyChainUptoRow.holds Try.pinned (OpenSpec.upto copyChainSpec)

/-- 'pairworkslaw08.CopyCompare', WHERE WHAT IT READS IS OF BULK AT MOST 1048576: true; the input reads as it did. -/
def copyCompareUptoRow : OpenClaim := { program := "ytnfhlbmapfoifaa", sum := "c777274b595bd0f95fa33eb293f8867e0240b09ae220dd12c4938131c345d826", func := "pairworks/pairworkslaw08.CopyCompare", spec := "copyCompare", unfollowed := true, recurses := true, plainKeys := false, apart := false, narrowed := true }
def CopyCompareUptoSaid : Prop := copyCompareUptoRow.holds Try.pinned (OpenSpec.upto copyCompareSpec)

/-- 'pairworkslaw08.CopyMore', WHERE WHAT IT READS IS OF BULK AT MOST 1048576: true; the input reads as it did. -/
def copyMoreUptoRow : OpenClaim := { program := "ytnfhlbmapfoifaa", sum := "c777274b595bd0f95fa33eb293f8867e0240b09ae220dd12c4938131c345d826", func := "pairworks/pairworkslaw08.CopyMore", spec := "copyMore", unfollowed := true, recurses := true, plainKeys := false, apart := false, narrowed := true }
def CopyMoreUptoSaid : Prop := copyMoreUptoRow.holds Try.pinned (OpenSpec.upto copyMoreSpec)

/-- 'pairworkslaw08.CopyWays', WHERE WHAT IT READS IS OF BULK AT MOST 1048576: true; the input reads as it did. -/
def copyWaysUptoRow : OpenClaim := { program := "ytnfhlbmapfoifaa", sum := "c777274b595bd0f95fa33eb293f8867e0240b09ae220dd12c4938131c345d826", func := "pairworks/pairworkslaw08.CopyWays", spec := "copyWays", unfollowed := true, recurses := true, plainKeys := false, apart := false, narrowed := true }
def CopyWaysUptoSaid : Prop := copyWaysUptoRow.holds Try.pinned (OpenSpec.upto copyWaysSpec)

/-- 'pairworkslaw08.CopyNames', WHERE WHAT IT READS IS OF BULK AT MOST 1048576: true; the input reads as it did. -/
def copyNamesUptoRow : OpenClaim := { program := "ytnfhlbmapfoifaa", sum := "c777274b595bd0f95fa33eb293f8867e0240b09ae220dd12c4938131c345d826", func := "pairworks/pairworkslaw08.CopyNames", spec := "copyNames", unfollowed := true, recurses := true, plainKeys := false, apart := false, narrowed := true }
def CopyNamesUptoSaid : Prop := copyNamesUptoRow.holds Try.pinned (OpenSpec.upto copyNamesSpec)

/-- 'pairworkslaw08.CopyTrue', WHERE WHAT IT READS IS OF BULK AT MOST 1048576: true; the input reads as it did. -/
def copyTrueUptoRow : OpenClaim := { program := "ytnfhlbmapfoifaa", sum := "c777274b595bd0f95fa33eb293f8867e0240b09ae220dd12c4938131c345d826", func := "pairworks/pairworkslaw08.CopyTrue", spec := "copyTrue", unfollowed := true, recurses := true, plainKeys := false, apart := false, narrowed := true }
def CopyTrueUptoSaid : Prop := copyTrueUptoRow.holds Try.pinned (OpenSpec.upto copyTrueSpec)

/-- 'pairworkslaw08.CopyFewest', WHERE WHAT IT READS IS OF BULK AT MOST 1048576: true; the input reads as it did. -/
def copyFewestUptoRow : OpenClaim := { program := "ytnfhlbmapfoifaa", sum := "c777274b595bd0f95fa33eb293f8867e0240b09ae220dd12c4938131c345d826", func := "pairworks/pairworkslaw08.CopyFewest", spec := "copyFewest", unfollowed := true, recurses := true, plainKeys := false, apart := false, narrowed := true }
def CopyFewestUptoSaid : Prop := copyFewestUptoRow.holds Try.pinned (OpenSpec.upto copyFewestSpec)

/-- 'pairworkslaw08.CopyTurned', WHERE WHAT IT READS IS OF BULK AT MOST 1048576: true; the input reads as it did. -/
def copyTurnedUptoRow : OpenClaim := { program := "ytnfhlbmapfoifaa", sum := "c777274b595bd0f95fa33eb293f8867e0240b09ae220dd12c4938131c345d826", func := "pairworks/pairworkslaw08.CopyTurned", spec := "copyTurned", unfollowed := true, recurses := true, plainKeys := false, apart := false, narrowed := true }
def CopyTurnedUptoSaid : Prop := copyTurnedUptoRow.holds Try.pinned (OpenSpec.upto copyTurnedSpec)

end Rows
end Go.Proofs.Ytnfhlbmapfoifaa
