/-
  No cell of these rows narrows 'for every input' (looked for: loops, veiled, ifaces, maps, wideKeys, modest, calm, conditions, laid).
  DERIVED. THE GIVEN ROWS OF THIS SEAT. 12 by the template 'for every input the law returns true; each argument reads behind the call as it read before'; 0 by the template 'total and deterministic' (their statements: YtmnihodamdldeaaTotals.lean).
  GIVEN WITH THE SEED: the statements are not yours to turn. If you find one false, say at which input.
  Laid BY PROGRAM, IN A SANDBOX (cutbox-rows.mjs): the forced cells as the released guide's own fill.sh prints them over the translation 79c318c8d5c1dd21… (all of the seat's roots in one cut). By AI agents, Wed Nov 11 2026. No macro, syntax, notation, axiom, sorry.
-/
import Derived.Test.YtmnihodamdldeaaChecked
import GoSem.Claim
import GoSem.ClaimJoined
import GoSem.ClaimMapViews
import Derived.JoinedTies
import Derived.KernelRfl
namespace Go.Proofs.Ytmnihodamdldeaa
/- THE CELL 'sum', in the pinned program and in every row, IS THE sha256 OF THE DUMP (.gsa) THAT YtmnihodamdldeaaProg.lean LOADS. Nothing in Lean hashes anything: it is a label: what it is worth is what the hold of that sum in a sandbox is worth. -/
noncomputable def Try.pinned : Pinned := { name := "ytmnihodamdldeaa", sum := "79c318c8d5c1dd219bd31d5b2338a89bc12a85e0ac8545b8544136285c9226fe", checked := Try.checked }
namespace Rows
def none {H : Type} : Left H := { results := [], args := [] }

/-- 'laws.FnExactPastSpreads': WHATEVER THE INPUT: true; the input reads as it did. -/
def fnExactPastSpreadsSpec : ChangeSpec := { name := "fnExactPastSpreads", fn := fun _ => fun
  | [d1, d2, d3] => { results := [.lit (.bool true)], args := [d1, d2, d3] }
  | _ => none }
def fnExactPastSpreadsRow : OpenClaim := { program := "ytmnihodamdldeaa", sum := "79c318c8d5c1dd219bd31d5b2338a89bc12a85e0ac8545b8544136285c9226fe", func := "loop.example/g01375/laws.FnExactPastSpreads", spec := "fnExactPastSpreads", unfollowed := true, recurses := true, apart := false }
def FnExactPastSpreadsSaid : Prop := fnExactPastSpreadsRow.holds Try.pinned (OpenSpec.ofChange fnExactPastSpreadsSpec)

/-- ITS FALSE NEIGHBOUR: 'it returns false'. Refute it at one input. -/
def fnExactPastSpreadsWrong : ChangeSpec := { name := "fnExactPastSpreads", fn := fun _ => fun
  | [d1, d2, d3] => { results := [.lit (.bool false)], args := [d1, d2, d3] }
  | _ => none }
def FnExactPastSpreadsWrongFalsely : Prop := fnExactPastSpreadsRow.holds Try.pinned (OpenSpec.ofChange fnExactPastSpreadsWrong)

/-- 'laws.FnExactOrderSize': WHATEVER THE INPUT: true; the input reads as it did. -/
def fnExactOrderSizeSpec : ChangeSpec := { name := "fnExactOrderSize", fn := fun _ => fun
  | [d1, d2, d3] => { results := [.lit (.bool true)], args := [d1, d2, d3] }
  | _ => none }
def fnExactOrderSizeRow : OpenClaim := { program := "ytmnihodamdldeaa", sum := "79c318c8d5c1dd219bd31d5b2338a89bc12a85e0ac8545b8544136285c9226fe", func := "loop.example/g01375/laws.FnExactOrderSize", spec := "fnExactOrderSize", inPlace := ["math.sqrt"], unfollowed := true, recurses := true, apart := false }
def FnExactOrderSizeSaid : Prop := fnExactOrderSizeRow.holds Try.pinned (OpenSpec.ofChange fnExactOrderSizeSpec)

/-- ITS FALSE NEIGHBOUR: 'it returns false'. Refute it at one input. -/
def fnExactOrderSizeWrong : ChangeSpec := { name := "fnExactOrderSize", fn := fun _ => fun
  | [d1, d2, d3] => { results := [.lit (.bool false)], args := [d1, d2, d3] }
  | _ => none }
def FnExactOrderSizeWrongFalsely : Prop := fnExactOrderSizeRow.holds Try.pinned (OpenSpec.ofChange fnExactOrderSizeWrong)

/-- 'laws.FnExactDrawnSeries': WHATEVER THE INPUT: true; the input reads as it did. -/
def fnExactDrawnSeriesSpec : ChangeSpec := { name := "fnExactDrawnSeries", fn := fun _ => fun
  | [d1, d2, d3, d4, d5] => { results := [.lit (.bool true)], args := [d1, d2, d3, d4, d5] }
  | _ => none }
def fnExactDrawnSeriesRow : OpenClaim := { program := "ytmnihodamdldeaa", sum := "79c318c8d5c1dd219bd31d5b2338a89bc12a85e0ac8545b8544136285c9226fe", func := "loop.example/g01375/laws.FnExactDrawnSeries", spec := "fnExactDrawnSeries", unfollowed := true, recurses := true, apart := false }
def FnExactDrawnSeriesSaid : Prop := fnExactDrawnSeriesRow.holds Try.pinned (OpenSpec.ofChange fnExactDrawnSeriesSpec)

/-- ITS FALSE NEIGHBOUR: 'it returns false'. Refute it at one input. -/
def fnExactDrawnSeriesWrong : ChangeSpec := { name := "fnExactDrawnSeries", fn := fun _ => fun
  | [d1, d2, d3, d4, d5] => { results := [.lit (.bool false)], args := [d1, d2, d3, d4, d5] }
  | _ => none }
def FnExactDrawnSeriesWrongFalsely : Prop := fnExactDrawnSeriesRow.holds Try.pinned (OpenSpec.ofChange fnExactDrawnSeriesWrong)

/-- 'laws.FnExactPastAhead': WHATEVER THE INPUT: true; the input reads as it did. -/
def fnExactPastAheadSpec : ChangeSpec := { name := "fnExactPastAhead", fn := fun _ => fun
  | [d1, d2, d3, d4] => { results := [.lit (.bool true)], args := [d1, d2, d3, d4] }
  | _ => none }
def fnExactPastAheadRow : OpenClaim := { program := "ytmnihodamdldeaa", sum := "79c318c8d5c1dd219bd31d5b2338a89bc12a85e0ac8545b8544136285c9226fe", func := "loop.example/g01375/laws.FnExactPastAhead", spec := "fnExactPastAhead", unfollowed := true, recurses := true, apart := false }
def FnExactPastAheadSaid : Prop := fnExactPastAheadRow.holds Try.pinned (OpenSpec.ofChange fnExactPastAheadSpec)

/-- ITS FALSE NEIGHBOUR: 'it returns false'. Refute it at one input. -/
def fnExactPastAheadWrong : ChangeSpec := { name := "fnExactPastAhead", fn := fun _ => fun
  | [d1, d2, d3, d4] => { results := [.lit (.bool false)], args := [d1, d2, d3, d4] }
  | _ => none }
def FnExactPastAheadWrongFalsely : Prop := fnExactPastAheadRow.holds Try.pinned (OpenSpec.ofChange fnExactPastAheadWrong)

/-- 'laws.FnExactIsTreeSum': WHATEVER THE INPUT: true; the input reads as it did. -/
def fnExactIsTreeSumSpec : ChangeSpec := { name := "fnExactIsTreeSum", fn := fun _ => fun
  | [d1, d2, d3] => { results := [.lit (.bool true)], args := [d1, d2, d3] }
  | _ => none }
def fnExactIsTreeSumRow : OpenClaim := { program := "ytmnihodamdldeaa", sum := "79c318c8d5c1dd219bd31d5b2338a89bc12a85e0ac8545b8544136285c9226fe", func := "loop.example/g01375/laws.FnExactIsTreeSum", spec := "fnExactIsTreeSum", unfollowed := true, recurses := true, apart := false }
def FnExactIsTreeSumSaid : Prop := fnExactIsTreeSumRow.holds Try.pinned (OpenSpec.ofChange fnExactIsTreeSumSpec)

/-- ITS FALSE NEIGHBOUR: 'it returns false'. Refute it at one input. -/
def fnExactIsTreeSumWrong : ChangeSpec := { name := "fnExactIsTreeSum", fn := fun _ => fun
  | [d1, d2, d3] => { results := [.lit (.bool false)], args := [d1, d2, d3] }
  | _ => none }
def FnExactIsTreeSumWrongFalsely : Prop := fnExactIsTreeSumRow.holds Try.pinned (OpenSpec.ofChange fnExactIsTreeSumWrong)

/-- 'laws.FnExactLevelStep': WHATEVER THE INPUT: true; the input reads as it did. -/
def fnExactLevelStepSpec : ChangeSpec := { name := "fnExactLevelStep", fn := fun _ => fun
  | [d1, d2, d3] => { results := [.lit (.bool true)], args := [d1, d2, d3] }
  | _ => none }
def fnExactLevelStepRow : OpenClaim := { program := "ytmnihodamdldeaa", sum := "79c318c8d5c1dd219bd31d5b2338a89bc12a85e0ac8545b8544136285c9226fe", func := "loop.example/g01375/laws.FnExactLevelStep", spec := "fnExactLevelStep", inPlace := ["math.Float64frombits", "math.Float64bits"], unfollowed := true, recurses := true, apart := false }
def FnExactLevelStepSaid : Prop := fnExactLevelStepRow.holds Try.pinned (OpenSpec.ofChange fnExactLevelStepSpec)

/-- ITS FALSE NEIGHBOUR: 'it returns false'. Refute it at one input. -/
def fnExactLevelStepWrong : ChangeSpec := { name := "fnExactLevelStep", fn := fun _ => fun
  | [d1, d2, d3] => { results := [.lit (.bool false)], args := [d1, d2, d3] }
  | _ => none }
def FnExactLevelStepWrongFalsely : Prop := fnExactLevelStepRow.holds Try.pinned (OpenSpec.ofChange fnExactLevelStepWrong)

/-- 'laws.FnExactScaledMiss': WHATEVER THE INPUT: true; the input reads as it did. -/
def fnExactScaledMissSpec : ChangeSpec := { name := "fnExactScaledMiss", fn := fun _ => fun
  | [d1, d2, d3, d4] => { results := [.lit (.bool true)], args := [d1, d2, d3, d4] }
  | _ => none }
def fnExactScaledMissRow : OpenClaim := { program := "ytmnihodamdldeaa", sum := "79c318c8d5c1dd219bd31d5b2338a89bc12a85e0ac8545b8544136285c9226fe", func := "loop.example/g01375/laws.FnExactScaledMiss", spec := "fnExactScaledMiss", unfollowed := true, recurses := true, apart := false }
def FnExactScaledMissSaid : Prop := fnExactScaledMissRow.holds Try.pinned (OpenSpec.ofChange fnExactScaledMissSpec)

/-- ITS FALSE NEIGHBOUR: 'it returns false'. Refute it at one input. -/
def fnExactScaledMissWrong : ChangeSpec := { name := "fnExactScaledMiss", fn := fun _ => fun
  | [d1, d2, d3, d4] => { results := [.lit (.bool false)], args := [d1, d2, d3, d4] }
  | _ => none }
def FnExactScaledMissWrongFalsely : Prop := fnExactScaledMissRow.holds Try.pinned (OpenSpec.ofChange fnExactScaledMissWrong)

/-- 'laws.FnExactRootMiss': WHATEVER THE INPUT: true; the input reads as it did. -/
def fnExactRootMissSpec : ChangeSpec := { name := "fnExactRootMiss", fn := fun _ => fun
  | [d1, d2] => { results := [.lit (.bool true)], args := [d1, d2] }
  | _ => none }
def fnExactRootMissRow : OpenClaim := { program := "ytmnihodamdldeaa", sum := "79c318c8d5c1dd219bd31d5b2338a89bc12a85e0ac8545b8544136285c9226fe", func := "loop.example/g01375/laws.FnExactRootMiss", spec := "fnExactRootMiss", inPlace := ["math.sqrt"], unfollowed := true, recurses := true, apart := false }
def FnExactRootMissSaid : Prop := fnExactRootMissRow.holds Try.pinned (OpenSpec.ofChange fnExactRootMissSpec)

/-- ITS FALSE NEIGHBOUR: 'it returns false'. Refute it at one input. -/
def fnExactRootMissWrong : ChangeSpec := { name := "fnExactRootMiss", fn := fun _ => fun
  | [d1, d2] => { results := [.lit (.bool false)], args := [d1, d2] }
  | _ => none }
def FnExactRootMissWrongFalsely : Prop := fnExactRootMissRow.holds Try.pinned (OpenSpec.ofChange fnExactRootMissWrong)

/-- 'laws.FnExactShockRun': WHATEVER THE INPUT: true; the input reads as it did. -/
def fnExactShockRunSpec : ChangeSpec := { name := "fnExactShockRun", fn := fun _ => fun
  | [d1, d2, d3, d4] => { results := [.lit (.bool true)], args := [d1, d2, d3, d4] }
  | _ => none }
def fnExactShockRunRow : OpenClaim := { program := "ytmnihodamdldeaa", sum := "79c318c8d5c1dd219bd31d5b2338a89bc12a85e0ac8545b8544136285c9226fe", func := "loop.example/g01375/laws.FnExactShockRun", spec := "fnExactShockRun", inPlace := ["math.Float64frombits", "math.Float64bits"], unfollowed := true, recurses := true, apart := false }
def FnExactShockRunSaid : Prop := fnExactShockRunRow.holds Try.pinned (OpenSpec.ofChange fnExactShockRunSpec)

/-- ITS FALSE NEIGHBOUR: 'it returns false'. Refute it at one input. -/
def fnExactShockRunWrong : ChangeSpec := { name := "fnExactShockRun", fn := fun _ => fun
  | [d1, d2, d3, d4] => { results := [.lit (.bool false)], args := [d1, d2, d3, d4] }
  | _ => none }
def FnExactShockRunWrongFalsely : Prop := fnExactShockRunRow.holds Try.pinned (OpenSpec.ofChange fnExactShockRunWrong)

/-- 'laws.FnExactOrderPoint': WHATEVER THE INPUT: true; the input reads as it did. -/
def fnExactOrderPointSpec : ChangeSpec := { name := "fnExactOrderPoint", fn := fun _ => fun
  | [d1, d2, d3] => { results := [.lit (.bool true)], args := [d1, d2, d3] }
  | _ => none }
def fnExactOrderPointRow : OpenClaim := { program := "ytmnihodamdldeaa", sum := "79c318c8d5c1dd219bd31d5b2338a89bc12a85e0ac8545b8544136285c9226fe", func := "loop.example/g01375/laws.FnExactOrderPoint", spec := "fnExactOrderPoint", inPlace := ["math.sqrt"], unfollowed := true, recurses := true, apart := false }
def FnExactOrderPointSaid : Prop := fnExactOrderPointRow.holds Try.pinned (OpenSpec.ofChange fnExactOrderPointSpec)

/-- ITS FALSE NEIGHBOUR: 'it returns false'. Refute it at one input. -/
def fnExactOrderPointWrong : ChangeSpec := { name := "fnExactOrderPoint", fn := fun _ => fun
  | [d1, d2, d3] => { results := [.lit (.bool false)], args := [d1, d2, d3] }
  | _ => none }
def FnExactOrderPointWrongFalsely : Prop := fnExactOrderPointRow.holds Try.pinned (OpenSpec.ofChange fnExactOrderPointWrong)

/-- 'laws.FnExactLevelRun': WHATEVER THE INPUT: true; the input reads as it did. -/
def fnExactLevelRunSpec : ChangeSpec := { name := "fnExactLevelRun", fn := fun _ => fun
  | [d1, d2, d3] => { results := [.lit (.bool true)], args := [d1, d2, d3] }
  | _ => none }
def fnExactLevelRunRow : OpenClaim := { program := "ytmnihodamdldeaa", sum := "79c318c8d5c1dd219bd31d5b2338a89bc12a85e0ac8545b8544136285c9226fe", func := "loop.example/g01375/laws.FnExactLevelRun", spec := "fnExactLevelRun", inPlace := ["math.Float64frombits", "math.Float64bits"], unfollowed := true, recurses := true, apart := false }
def FnExactLevelRunSaid : Prop := fnExactLevelRunRow.holds Try.pinned (OpenSpec.ofChange fnExactLevelRunSpec)

/-- ITS FALSE NEIGHBOUR: 'it returns false'. Refute it at one input. -/
def fnExactLevelRunWrong : ChangeSpec := { name := "fnExactLevelRun", fn := fun _ => fun
  | [d1, d2, d3] => { results := [.lit (.bool false)], args := [d1, d2, d3] }
  | _ => none }
def FnExactLevelRunWrongFalsely : Prop := fnExactLevelRunRow.holds Try.pinned (OpenSpec.ofChange fnExactLevelRunWrong)

/-- 'laws.FnExactLevelBack': WHATEVER THE INPUT: true; the input reads as it did. -/
def fnExactLevelBackSpec : ChangeSpec := { name := "fnExactLevelBack", fn := fun _ => fun
  | [d1, d2, d3] => { results := [.lit (.bool true)], args := [d1, d2, d3] }
  | _ => none }
def fnExactLevelBackRow : OpenClaim := { program := "ytmnihodamdldeaa", sum := "79c318c8d5c1dd219bd31d5b2338a89bc12a85e0ac8545b8544136285c9226fe", func := "loop.example/g01375/laws.FnExactLevelBack", spec := "fnExactLevelBack", inPlace := ["math.Float64frombits", "math.Float64bits"], unfollowed := true, recurses := true, apart := false }
def FnExactLevelBackSaid : Prop := fnExactLevelBackRow.holds Try.pinned (OpenSpec.ofChange fnExactLevelBackSpec)

/-- ITS FALSE NEIGHBOUR: 'it returns false'. Refute it at one input. -/
def fnExactLevelBackWrong : ChangeSpec := { name := "fnExactLevelBack", fn := fun _ => fun
  | [d1, d2, d3] => { results := [.lit (.bool false)], args := [d1, d2, d3] }
  | _ => none }
def FnExactLevelBackWrongFalsely : Prop := fnExactLevelBackRow.holds Try.pinned (OpenSpec.ofChange fnExactLevelBackWrong)

/- THE SECOND FORM. 'bulk': how many values and letters a reading holds, each counted each time it is reached (what is shared counts as often as it is met; a slice's spare places count too). A statement '..UptoSaid' is the law's where the arguments, and the package variables that the reading takes, are together of bulk at most 1048576: NARROWER than '..Said'. Prove '..Said' where nothing that the law and all that it calls make is longer than what came in: it says more and counts as full. Else prove '..UptoSaid'. A law counts once. -/
mutual
def uptoBulk {H : Type} : DataW H → Nat
  | .lit (.string bytes) => bytes.length + 1
  | .lit _ => 1
  | .nil => 1
  | .ptr d => uptoBulk d + 1
  | .slice elems spare => uptoBulkAll elems + uptoBulkAll spare + 1
  | .agg parts => uptoBulkAll parts + 1
  | .iface _ d => uptoBulk d + 1
  | .map entries => uptoBulkEntries entries + 1
  | .held _ => 1
def uptoBulkAll {H : Type} : List (DataW H) → Nat
  | [] => 0
  | d :: r => uptoBulk d + uptoBulkAll r
def uptoBulkEntries {H : Type} : List (Lit × DataW H) → Nat
  | [] => 0
  | x :: r => uptoBulkEntry x + uptoBulkEntries r
def uptoBulkEntry {H : Type} : Lit × DataW H → Nat
  | (.string bytes, d) => bytes.length + uptoBulk d + 1
  | (_, d) => uptoBulk d + 1
 end
def uptoSmall : (H : Type) → List (DataW H) → Bool := fun _ ds => decide (uptoBulkAll ds ≤ 1048576)
def OpenSpec.upto (s : _root_.Go.ChangeSpec) : _root_.Go.OpenSpec := { _root_.Go.OpenSpec.ofChange s with cond := some uptoSmall }

/-- 'laws.FnExactPastSpreads', WHERE WHAT IT READS IS OF BULK AT MOST 1048576: true; the input reads as it did. -/
def fnExactPastSpreadsUptoRow : OpenClaim := { program := "ytmnihodamdldeaa", sum := "79c318c8d5c1dd219bd31d5b2338a89bc12a85e0ac8545b8544136285c9226fe", func := "loop.example/g01375/laws.FnExactPastSpreads", spec := "fnExactPastSpreads", unfollowed := true, recurses := true, apart := false, narrowed := true }
def FnExactPastSpreadsUptoSaid : Prop := fnExactPastSpreadsUptoRow.holds Try.pinned (OpenSpec.upto fnExactPastSpreadsSpec)

/-- 'laws.FnExactOrderSize', WHERE WHAT IT READS IS OF BULK AT MOST 1048576: true; the input reads as it did. -/
def fnExactOrderSizeUptoRow : OpenClaim := { program := "ytmnihodamdldeaa", sum := "79c318c8d5c1dd219bd31d5b2338a89bc12a85e0ac8545b8544136285c9226fe", func := "loop.example/g01375/laws.FnExactOrderSize", spec := "fnExactOrderSize", inPlace := ["math.sqrt"], unfollowed := true, recurses := true, apart := false, narrowed := true }
def FnExactOrderSizeUptoSaid : Prop := fnExactOrderSizeUptoRow.holds Try.pinned (OpenSpec.upto fnExactOrderSizeSpec)

/-- 'laws.FnExactDrawnSeries', WHERE WHAT IT READS IS OF BULK AT MOST 1048576: true; the input reads as it did. -/
def fnExactDrawnSeriesUptoRow : OpenClaim := { program := "ytmnihodamdldeaa", sum := "79c318c8d5c1dd219bd31d5b2338a89bc12a85e0ac8545b8544136285c9226fe", func := "loop.example/g01375/laws.FnExactDrawnSeries", spec := "fnExactDrawnSeries", unfollowed := true, recurses := true, apart := false, narrowed := true }
def FnExactDrawnSeriesUptoSaid : Prop := fnExactDrawnSeriesUptoRow.holds Try.pinned (OpenSpec.upto fnExactDrawnSeriesSpec)

/-- 'laws.FnExactPastAhead', WHERE WHAT IT READS IS OF BULK AT MOST 1048576: true; the input reads as it did. -/
def fnExactPastAheadUptoRow : OpenClaim := { program := "ytmnihodamdldeaa", sum := "79c318c8d5c1dd219bd31d5b2338a89bc12a85e0ac8545b8544136285c9226fe", func := "loop.example/g01375/laws.FnExactPastAhead", spec := "fnExactPastAhead", unfollowed := true, recurses := true, apart := false, narrowed := true }
def FnExactPastAheadUptoSaid : Prop := fnExactPastAheadUptoRow.holds Try.pinned (OpenSpec.upto fnExactPastAheadSpec)

/-- 'laws.FnExactIsTreeSum', WHERE WHAT IT READS IS OF BULK AT MOST 1048576: true; the input reads as it did. -/
def fnExactIsTreeSumUptoRow : OpenClaim := { program := "ytmnihodamdldeaa", sum := "79c318c8d5c1dd219bd31d5b2338a89bc12a85e0ac8545b8544136285c9226fe", func := "loop.example/g01375/laws.FnExactIsTreeSum", spec := "fnExactIsTreeSum", unfollowed := true, recurses := true, apart := false, narrowed := true }
def FnExactIsTreeSumUptoSaid : Prop := fnExactIsTreeSumUptoRow.holds Try.pinned (OpenSpec.upto fnExactIsTreeSumSpec)

/-- 'laws.FnExactLevelStep', WHERE WHAT IT READS IS OF BULK AT MOST 1048576: true; the input reads as it did. -/
def fnExactLevelStepUptoRow : OpenClaim := { program := "ytmnihodamdldeaa", sum := "79c318c8d5c1dd219bd31d5b2338a89bc12a85e0ac8545b8544136285c9226fe", func := "loop.example/g01375/laws.FnExactLevelStep", spec := "fnExactLevelStep", inPlace := ["math.Float64frombits", "math.Float64bits"], unfollowed := true, recurses := true, apart := false, narrowed := true }
def FnExactLevelStepUptoSaid : Prop := fnExactLevelStepUptoRow.holds Try.pinned (OpenSpec.upto fnExactLevelStepSpec)

/-- 'laws.FnExactScaledMiss', WHERE WHAT IT READS IS OF BULK AT MOST 1048576: true; the input reads as it did. -/
def fnExactScaledMissUptoRow : OpenClaim := { program := "ytmnihodamdldeaa", sum := "79c318c8d5c1dd219bd31d5b2338a89bc12a85e0ac8545b8544136285c9226fe", func := "loop.example/g01375/laws.FnExactScaledMiss", spec := "fnExactScaledMiss", unfollowed := true, recurses := true, apart := false, narrowed := true }
def FnExactScaledMissUptoSaid : Prop := fnExactScaledMissUptoRow.holds Try.pinned (OpenSpec.upto fnExactScaledMissSpec)

/-- 'laws.FnExactRootMiss', WHERE WHAT IT READS IS OF BULK AT MOST 1048576: true; the input reads as it did. -/
def fnExactRootMissUptoRow : OpenClaim := { program := "ytmnihodamdldeaa", sum := "79c318c8d5c1dd219bd31d5b2338a89bc12a85e0ac8545b8544136285c9226fe", func := "loop.example/g01375/laws.FnExactRootMiss", spec := "fnExactRootMiss", inPlace := ["math.sqrt"], unfollowed := true, recurses := true, apart := false, narrowed := true }
def FnExactRootMissUptoSaid : Prop := fnExactRootMissUptoRow.holds Try.pinned (OpenSpec.upto fnExactRootMissSpec)

/-- 'laws.FnExactShockRun', WHERE WHAT IT READS IS OF BULK AT MOST 1048576: true; the input reads as it did. -/
def fnExactShockRunUptoRow : OpenClaim := { program := "ytmnihodamdldeaa", sum := "79c318c8d5c1dd219bd31d5b2338a89bc12a85e0ac8545b8544136285c9226fe", func := "loop.example/g01375/laws.FnExactShockRun", spec := "fnExactShockRun", inPlace := ["math.Float64frombits", "math.Float64bits"], unfollowed := true, recurses := true, apart := false, narrowed := true }
def FnExactShockRunUptoSaid : Prop := fnExactShockRunUptoRow.holds Try.pinned (OpenSpec.upto fnExactShockRunSpec)

/-- 'laws.FnExactOrderPoint', WHERE WHAT IT READS IS OF BULK AT MOST 1048576: true; the input reads as it did. -/
def fnExactOrderPointUptoRow : OpenClaim := { program := "ytmnihodamdldeaa", sum := "79c318c8d5c1dd219bd31d5b2338a89bc12a85e0ac8545b8544136285c9226fe", func := "loop.example/g01375/laws.FnExactOrderPoint", spec := "fnExactOrderPoint", inPlace := ["math.sqrt"], unfollowed := true, recurses := true, apart := false, narrowed := true }
def FnExactOrderPointUptoSaid : Prop := fnExactOrderPointUptoRow.holds Try.pinned (OpenSpec.upto fnExactOrderPointSpec)

/-- 'laws.FnExactLevelRun', WHERE WHAT IT READS IS OF BULK AT MOST 1048576: true; the input reads as it did. -/
def fnExactLevelRunUptoRow : OpenClaim := { program := "ytmnihodamdldeaa", sum := "79c318c8d5c1dd219bd31d5b2338a89bc12a85e0ac8545b8544136285c9226fe", func := "loop.example/g01375/laws.FnExactLevelRun", spec := "fnExactLevelRun", inPlace := ["math.Float64frombits", "math.Float64bits"], unfollowed := true, recurses := true, apart := false, narrowed := true }
def FnExactLevelRunUptoSaid : Prop := fnExactLevelRunUptoRow.holds Try.pinned (OpenSpec.upto fnExactLevelRunSpec)

/-- 'laws.FnExactLevelBack', WHERE WHAT IT READS IS OF BULK AT MOST 1048576: true; the input reads as it did. -/
def fnExactLevelBackUptoRow : OpenClaim := { program := "ytmnihodamdldeaa", sum := "79c318c8d5c1dd219bd31d5b2338a89bc12a85e0ac8545b8544136285c9226fe", func := "loop.example/g01375/laws.FnExactLevelBack", spec := "fnExactLevelBack", inPlace := ["math.Float64frombits", "math.Float64bits"], unfollowed := true, recurses := true, apart := false, narrowed := true }
def FnExactLevelBackUptoSaid : Prop := fnExactLevelBackUptoRow.holds Try.pinned (OpenSpec.upto fnExactLevelBackSpec)

end Rows
end Go.Proofs.Ytmnihodamdldeaa
