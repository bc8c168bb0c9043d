/-
  No cell of these rows narrows 'for every input' (looked for: loops, veiled, ifaces, maps, wideKeys, modest, calm, conditions, laid).
  DERIVED. THE GIVEN ROWS OF THIS SEAT. 10 by the template 'for every input the law returns true; each argument reads behind the call as it read before'; 0 by the template 'total and deterministic' (their statements: YtjkhclijmcmdjaaTotals.lean).
  GIVEN WITH THE SEED: the statements are not yours to turn. If you find one false, say at which input.
  Laid BY PROGRAM, IN A SANDBOX (cutbox-rows.mjs): the forced cells as the released guide's own fill.sh prints them over the translation e9d391ab1152e23e… (all of the seat's roots in one cut). By AI agents, Wed Nov 11 2026. No macro, syntax, notation, axiom, sorry.
-/
import Derived.Test.YtjkhclijmcmdjaaChecked
import GoSem.Claim
import GoSem.ClaimJoined
import GoSem.ClaimMapViews
import Derived.JoinedTies
import Derived.KernelRfl
namespace Go.Proofs.Ytjkhclijmcmdjaa
/- THE CELL 'sum', in the pinned program and in every row, IS THE sha256 OF THE DUMP (.gsa) THAT YtjkhclijmcmdjaaProg.lean LOADS. Nothing in Lean hashes anything: it is a label: what it is worth is what the hold of that sum in a sandbox is worth. -/
noncomputable def Try.pinned : Pinned := { name := "ytjkhclijmcmdjaa", sum := "e9d391ab1152e23eaaf5120bf5381feb3b8583c88e5210db16991dc823a2f35a", checked := Try.checked }
namespace Rows
def none {H : Type} : Left H := { results := [], args := [] }

/-- 'pairworkslaw13.StockRuns': WHATEVER THE INPUT: true; the input reads as it did. -/
def stockRunsSpec : ChangeSpec := { name := "stockRuns", fn := fun _ => fun
  | [d1, d2, d3] => { results := [.lit (.bool true)], args := [d1, d2, d3] }
  | _ => none }
def stockRunsRow : OpenClaim := { program := "ytjkhclijmcmdjaa", sum := "e9d391ab1152e23eaaf5120bf5381feb3b8583c88e5210db16991dc823a2f35a", func := "pairworks/pairworkslaw13.StockRuns", spec := "stockRuns", unfollowed := true, recurses := true, apart := false }
def StockRunsSaid : Prop := stockRunsRow.holds Try.pinned (OpenSpec.ofChange stockRunsSpec)

/-- ITS FALSE NEIGHBOUR: 'it returns false'. Refute it at one input. -/
def stockRunsWrong : ChangeSpec := { name := "stockRuns", fn := fun _ => fun
  | [d1, d2, d3] => { results := [.lit (.bool false)], args := [d1, d2, d3] }
  | _ => none }
def StockRunsWrongFalsely : Prop := stockRunsRow.holds Try.pinned (OpenSpec.ofChange stockRunsWrong)

/-- 'pairworkslaw13.StockBest': WHATEVER THE INPUT: true; the input reads as it did. -/
def stockBestSpec : ChangeSpec := { name := "stockBest", fn := fun _ => fun
  | [d] => { results := [.lit (.bool true)], args := [d] }
  | _ => none }
def stockBestRow : OpenClaim := { program := "ytjkhclijmcmdjaa", sum := "e9d391ab1152e23eaaf5120bf5381feb3b8583c88e5210db16991dc823a2f35a", func := "pairworks/pairworkslaw13.StockBest", spec := "stockBest", unfollowed := true, recurses := true, apart := false }
def StockBestSaid : Prop := stockBestRow.holds Try.pinned (OpenSpec.ofChange stockBestSpec)

/-- ITS FALSE NEIGHBOUR: 'it returns false'. Refute it at one input. -/
def stockBestWrong : ChangeSpec := { name := "stockBest", fn := fun _ => fun
  | [d] => { results := [.lit (.bool false)], args := [d] }
  | _ => none }
def StockBestWrongFalsely : Prop := stockBestRow.holds Try.pinned (OpenSpec.ofChange stockBestWrong)

/-- 'pairworkslaw13.StockPlays': WHATEVER THE INPUT: true; the input reads as it did. -/
def stockPlaysSpec : ChangeSpec := { name := "stockPlays", fn := fun _ => fun
  | [d1, d2] => { results := [.lit (.bool true)], args := [d1, d2] }
  | _ => none }
def stockPlaysRow : OpenClaim := { program := "ytjkhclijmcmdjaa", sum := "e9d391ab1152e23eaaf5120bf5381feb3b8583c88e5210db16991dc823a2f35a", func := "pairworks/pairworkslaw13.StockPlays", spec := "stockPlays", unfollowed := true, recurses := true, apart := false }
def StockPlaysSaid : Prop := stockPlaysRow.holds Try.pinned (OpenSpec.ofChange stockPlaysSpec)

/-- ITS FALSE NEIGHBOUR: 'it returns false'. Refute it at one input. -/
def stockPlaysWrong : ChangeSpec := { name := "stockPlays", fn := fun _ => fun
  | [d1, d2] => { results := [.lit (.bool false)], args := [d1, d2] }
  | _ => none }
def StockPlaysWrongFalsely : Prop := stockPlaysRow.holds Try.pinned (OpenSpec.ofChange stockPlaysWrong)

/-- 'pairworkslaw13.StockTrue': WHATEVER THE INPUT: true; the input reads as it did. -/
def stockTrueSpec : ChangeSpec := { name := "stockTrue", fn := fun _ => fun
  | [d1, d2, d3] => { results := [.lit (.bool true)], args := [d1, d2, d3] }
  | _ => none }
def stockTrueRow : OpenClaim := { program := "ytjkhclijmcmdjaa", sum := "e9d391ab1152e23eaaf5120bf5381feb3b8583c88e5210db16991dc823a2f35a", func := "pairworks/pairworkslaw13.StockTrue", spec := "stockTrue", unfollowed := true, recurses := true, apart := false }
def StockTrueSaid : Prop := stockTrueRow.holds Try.pinned (OpenSpec.ofChange stockTrueSpec)

/-- ITS FALSE NEIGHBOUR: 'it returns false'. Refute it at one input. -/
def stockTrueWrong : ChangeSpec := { name := "stockTrue", fn := fun _ => fun
  | [d1, d2, d3] => { results := [.lit (.bool false)], args := [d1, d2, d3] }
  | _ => none }
def StockTrueWrongFalsely : Prop := stockTrueRow.holds Try.pinned (OpenSpec.ofChange stockTrueWrong)

/-- 'pairworkslaw13.StockCheap': WHATEVER THE INPUT: true; the input reads as it did. -/
def stockCheapSpec : ChangeSpec := { name := "stockCheap", fn := fun _ => fun
  | [d1, d2] => { results := [.lit (.bool true)], args := [d1, d2] }
  | _ => none }
def stockCheapRow : OpenClaim := { program := "ytjkhclijmcmdjaa", sum := "e9d391ab1152e23eaaf5120bf5381feb3b8583c88e5210db16991dc823a2f35a", func := "pairworks/pairworkslaw13.StockCheap", spec := "stockCheap", unfollowed := true, recurses := true, apart := false }
def StockCheapSaid : Prop := stockCheapRow.holds Try.pinned (OpenSpec.ofChange stockCheapSpec)

/-- ITS FALSE NEIGHBOUR: 'it returns false'. Refute it at one input. -/
def stockCheapWrong : ChangeSpec := { name := "stockCheap", fn := fun _ => fun
  | [d1, d2] => { results := [.lit (.bool false)], args := [d1, d2] }
  | _ => none }
def StockCheapWrongFalsely : Prop := stockCheapRow.holds Try.pinned (OpenSpec.ofChange stockCheapWrong)

/-- 'pairworkslaw13.StockLess': WHATEVER THE INPUT: true; the input reads as it did. -/
def stockLessSpec : ChangeSpec := { name := "stockLess", fn := fun _ => fun
  | [d] => { results := [.lit (.bool true)], args := [d] }
  | _ => none }
def stockLessRow : OpenClaim := { program := "ytjkhclijmcmdjaa", sum := "e9d391ab1152e23eaaf5120bf5381feb3b8583c88e5210db16991dc823a2f35a", func := "pairworks/pairworkslaw13.StockLess", spec := "stockLess", unfollowed := true, recurses := true, apart := false }
def StockLessSaid : Prop := stockLessRow.holds Try.pinned (OpenSpec.ofChange stockLessSpec)

/-- ITS FALSE NEIGHBOUR: 'it returns false'. Refute it at one input. -/
def stockLessWrong : ChangeSpec := { name := "stockLess", fn := fun _ => fun
  | [d] => { results := [.lit (.bool false)], args := [d] }
  | _ => none }
def StockLessWrongFalsely : Prop := stockLessRow.holds Try.pinned (OpenSpec.ofChange stockLessWrong)

/-- 'pairworkslaw13.StockKept': WHATEVER THE INPUT: true; the input reads as it did. -/
def stockKeptSpec : ChangeSpec := { name := "stockKept", fn := fun _ => fun
  | [d1, d2] => { results := [.lit (.bool true)], args := [d1, d2] }
  | _ => none }
def stockKeptRow : OpenClaim := { program := "ytjkhclijmcmdjaa", sum := "e9d391ab1152e23eaaf5120bf5381feb3b8583c88e5210db16991dc823a2f35a", func := "pairworks/pairworkslaw13.StockKept", spec := "stockKept", unfollowed := true, recurses := true, apart := false }
def StockKeptSaid : Prop := stockKeptRow.holds Try.pinned (OpenSpec.ofChange stockKeptSpec)

/-- ITS FALSE NEIGHBOUR: 'it returns false'. Refute it at one input. -/
def stockKeptWrong : ChangeSpec := { name := "stockKept", fn := fun _ => fun
  | [d1, d2] => { results := [.lit (.bool false)], args := [d1, d2] }
  | _ => none }
def StockKeptWrongFalsely : Prop := stockKeptRow.holds Try.pinned (OpenSpec.ofChange stockKeptWrong)

/-- 'pairworkslaw13.StockStarts': WHATEVER THE INPUT: true; the input reads as it did. -/
def stockStartsSpec : ChangeSpec := { name := "stockStarts", fn := fun _ => fun
  | [d] => { results := [.lit (.bool true)], args := [d] }
  | _ => none }
def stockStartsRow : OpenClaim := { program := "ytjkhclijmcmdjaa", sum := "e9d391ab1152e23eaaf5120bf5381feb3b8583c88e5210db16991dc823a2f35a", func := "pairworks/pairworkslaw13.StockStarts", spec := "stockStarts", unfollowed := true, recurses := true, apart := false }
def StockStartsSaid : Prop := stockStartsRow.holds Try.pinned (OpenSpec.ofChange stockStartsSpec)

/-- ITS FALSE NEIGHBOUR: 'it returns false'. Refute it at one input. -/
def stockStartsWrong : ChangeSpec := { name := "stockStarts", fn := fun _ => fun
  | [d] => { results := [.lit (.bool false)], args := [d] }
  | _ => none }
def StockStartsWrongFalsely : Prop := stockStartsRow.holds Try.pinned (OpenSpec.ofChange stockStartsWrong)

/-- 'pairworkslaw13.StockMore': WHATEVER THE INPUT: true; the input reads as it did. -/
def stockMoreSpec : ChangeSpec := { name := "stockMore", fn := fun _ => fun
  | [d1, d2, d3] => { results := [.lit (.bool true)], args := [d1, d2, d3] }
  | _ => none }
def stockMoreRow : OpenClaim := { program := "ytjkhclijmcmdjaa", sum := "e9d391ab1152e23eaaf5120bf5381feb3b8583c88e5210db16991dc823a2f35a", func := "pairworks/pairworkslaw13.StockMore", spec := "stockMore", unfollowed := true, recurses := true, apart := false }
def StockMoreSaid : Prop := stockMoreRow.holds Try.pinned (OpenSpec.ofChange stockMoreSpec)

/-- ITS FALSE NEIGHBOUR: 'it returns false'. Refute it at one input. -/
def stockMoreWrong : ChangeSpec := { name := "stockMore", fn := fun _ => fun
  | [d1, d2, d3] => { results := [.lit (.bool false)], args := [d1, d2, d3] }
  | _ => none }
def StockMoreWrongFalsely : Prop := stockMoreRow.holds Try.pinned (OpenSpec.ofChange stockMoreWrong)

/-- 'pairworkslaw13.StockTurned': WHATEVER THE INPUT: true; the input reads as it did. -/
def stockTurnedSpec : ChangeSpec := { name := "stockTurned", fn := fun _ => fun
  | [d1, d2] => { results := [.lit (.bool true)], args := [d1, d2] }
  | _ => none }
def stockTurnedRow : OpenClaim := { program := "ytjkhclijmcmdjaa", sum := "e9d391ab1152e23eaaf5120bf5381feb3b8583c88e5210db16991dc823a2f35a", func := "pairworks/pairworkslaw13.StockTurned", spec := "stockTurned", unfollowed := true, recurses := true, apart := false }
def StockTurnedSaid : Prop := stockTurnedRow.holds Try.pinned (OpenSpec.ofChange stockTurnedSpec)

/-- ITS FALSE NEIGHBOUR: 'it returns false'. Refute it at one input. -/
def stockTurnedWrong : ChangeSpec := { name := "stockTurned", fn := fun _ => fun
  | [d1, d2] => { results := [.lit (.bool false)], args := [d1, d2] }
  | _ => none }
def StockTurnedWrongFalsely : Prop := stockTurnedRow.holds Try.pinned (OpenSpec.ofChange stockTurnedWrong)

/- THE SECOND FORM. 'bulk': how many values and letters a reading holds, each counted each time it is reached (what is shared counts as often as it is met; a slice's spare places count too). A statement '..UptoSaid' is the law's where the arguments, and the package variables that the reading takes, are together of bulk at most 1048576: NARROWER than '..Said'. Prove '..Said' where nothing that the law and all that it calls make is longer than what came in: it says more and counts as full. Else prove '..UptoSaid'. A law counts once. -/
mutual
def uptoBulk {H : Type} : DataW H → Nat
  | .lit (.string bytes) => bytes.length + 1
  | .lit _ => 1
  | .nil => 1
  | .ptr d => uptoBulk d + 1
  | .slice elems spare => uptoBulkAll elems + uptoBulkAll spare + 1
  | .agg parts => uptoBulkAll parts + 1
  | .iface _ d => uptoBulk d + 1
  | .map entries => uptoBulkEntries entries + 1
  | .held _ => 1
def uptoBulkAll {H : Type} : List (DataW H) → Nat
  | [] => 0
  | d :: r => uptoBulk d + uptoBulkAll r
def uptoBulkEntries {H : Type} : List (Lit × DataW H) → Nat
  | [] => 0
  | x :: r => uptoBulkEntry x + uptoBulkEntries r
def uptoBulkEntry {H : Type} : Lit × DataW H → Nat
  | (.string bytes, d) => bytes.length + uptoBulk d + 1
  | (_, d) => uptoBulk d + 1
 end
def uptoSmall : (H : Type) → List (DataW H) → Bool := fun _ ds => decide (uptoBulkAll ds ≤ 1048576)
def OpenSpec.upto (s : _root_.Go.ChangeSpec) : _root_.Go.OpenSpec := { _root_.Go.OpenSpec.ofChange s with cond := some uptoSmall }

/-- 'pairworkslaw13.StockRuns', WHERE WHAT IT READS IS OF BULK AT MOST 1048576: true; the input reads as it did. -/
def stockRunsUptoRow : OpenClaim := { program := "ytjkhclijmcmdjaa", sum := "e9d391ab1152e23eaaf5120bf5381feb3b8583c88e5210db16991dc823a2f35a", func := "pairworks/pairworkslaw13.StockRuns", spec := "stockRuns", unfollowed := true, recurses := true, apart := false, narrowed := true }
def StockRunsUptoSaid : Prop := stockRunsUptoRow.holds Try.pinned (OpenSpec.upto stockRunsSpec)

/-- 'pairworkslaw13.StockBest', WHERE WHAT IT READS IS OF BULK AT MOST 1048576: true; the input reads as it did. -/
def stockBestUptoRow : OpenClaim := { program := "ytjkhclijmcmdjaa", sum := "e9d391ab1152e23eaaf5120bf5381feb3b8583c88e5210db16991dc823a2f35a", func := "pairworks/pairworkslaw13.StockBest", spec := "stockBest", unfollowed := true, recurses := true, apart := false, narrowed := true }
def StockBestUptoSaid : Prop := stockBestUptoRow.holds Try.pinned (OpenSpec.upto stockBestSpec)

/-- 'pairworkslaw13.StockPlays', WHERE WHAT IT READS IS OF BULK AT MOST 1048576: true; the input reads as it did. -/
def stockPlaysUptoRow : OpenClaim := { program := "ytjkhclijmcmdjaa", sum := "e9d391ab1152e23eaaf5120bf5381feb3b8583c88e5210db16991dc823a2f35a", func := "pairworks/pairworkslaw13.StockPlays", spec := "stockPlays", unfollowed := true, recurses := true, apart := false, narrowed := true }
def StockPlaysUptoSaid : Prop := stockPlaysUptoRow.holds Try.pinned (OpenSpec.upto stockPlaysSpec)

/-- 'pairworkslaw13.StockTrue', WHERE WHAT IT READS IS OF BULK AT MOST 1048576: true; the input reads as it did. -/
def stockTrueUptoRow : OpenClaim := { program := "ytjkhclijmcmdjaa", sum := "e9d391ab1152e23eaaf5120bf5381feb3b8583c88e5210db16991dc823a2f35a", func := "pairworks/pairworkslaw13.StockTrue", spec := "stockTrue", unfollowed := true, recurses := true, apart := false, narrowed := true }
def StockTrueUptoSaid : Prop := stockTrueUptoRow.holds Try.pinned (OpenSpec.upto stockTrueSpec)

/-- 'pairworkslaw13.StockCheap', WHERE WHAT IT READS IS OF BULK AT MOST 1048576: true; the input reads as it did. -/
def stockCheapUptoRow : OpenClaim := { program := "ytjkhclijmcmdjaa", sum := "e9d391ab1152e23eaaf5120bf5381feb3b8583c88e5210db16991dc823a2f35a", func := "pairworks/pairworkslaw13.StockCheap", spec := "stockCheap", unfollowed := true, recurses := true, apart := false, narrowed := true }
def StockCheapUptoSaid : Prop := stockCheapUptoRow.holds Try.pinned (OpenSpec.upto stockCheapSpec)

/-- 'pairworkslaw13.StockLess', WHERE WHAT IT READS IS OF BULK AT MOST 1048576: true; the input reads as it did. -/
def stockLessUptoRow : OpenClaim := { program := "ytjkhclijmcmdjaa", sum := "e9d391ab1152e23eaaf5120bf5381feb3b8583c88e5210db16991dc823a2f35a", func := "pairworks/pairworkslaw13.StockLess", spec := "stockLess", unfollowed := true, recurses := true, apart := false, narrowed := true }
def StockLessUptoSaid : Prop := stockLessUptoRow.holds Try.pinned (OpenSpec.upto stockLessSpec)

/-- 'pairworkslaw13.StockKept', WHERE WHAT IT READS IS OF BULK AT MOST 1048576: true; the input reads as it did. -/
def stockKeptUptoRow : OpenClaim := { program := "ytjkhclijmcmdjaa", sum := "e9d391ab1152e23eaaf5120bf5381feb3b8583c88e5210db16991dc823a2f35a", func := "pairworks/pairworkslaw13.StockKept", spec := "stockKept", unfollowed := true, recurses := true, apart := false, narrowed := true }
def StockKeptUptoSaid : Prop := stockKeptUptoRow.holds Try.pinned (OpenSpec.upto stockKeptSpec)

/-- 'pairworkslaw13.StockStarts', WHERE WHAT IT READS IS OF BULK AT MOST 1048576: true; the input reads as it did. -/
def stockStartsUptoRow : OpenClaim := { program := "ytjkhclijmcmdjaa", sum := "e9d391ab1152e23eaaf5120bf5381feb3b8583c88e5210db16991dc823a2f35a", func := "pairworks/pairworkslaw13.StockStarts", spec := "stockStarts", unfollowed := true, recurses := true, apart := false, narrowed := true }
def StockStartsUptoSaid : Prop := stockStartsUptoRow.holds Try.pinned (OpenSpec.upto stockStartsSpec)

/-- 'pairworkslaw13.StockMore', WHERE WHAT IT READS IS OF BULK AT MOST 1048576: true; the input reads as it did. -/
def stockMoreUptoRow : OpenClaim := { program := "ytjkhclijmcmdjaa", sum := "e9d391ab1152e23eaaf5120bf5381feb3b8583c88e5210db16991dc823a2f35a", func := "pairworks/pairworkslaw13.StockMore", spec := "stockMore", unfollowed := true, recurses := true, apart := false, narrowed := true }
def StockMoreUptoSaid : Prop := stockMoreUptoRow.holds Try.pinned (OpenSpec.upto stockMoreSpec)

/-- 'pairworkslaw13.StockTurned', WHERE WHAT IT READS IS OF BULK AT MOST 1048576: true; the input reads as it did. -/
def stockTurnedUptoRow : OpenClaim := { program := "ytjkhclijmcmdjaa", sum := "e9d391ab1152e23eaaf5120bf5381feb3b8583c88e5210db16991dc823a2f35a", func := "pairworks/pairworkslaw13.StockTurned", spec := "stockTurned", unfollowed := true, recurses := true, apart := false, narrowed := true }
def StockTurnedUptoSaid : Prop := stockTurnedUptoRow.holds Try.pinned (OpenSpec.upto stockTurnedSpec)

end Rows
end Go.Proofs.Ytjkhclijmcmdjaa
