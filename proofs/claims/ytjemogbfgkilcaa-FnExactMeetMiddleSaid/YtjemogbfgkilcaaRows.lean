/-
  No cell of these rows narrows 'for every input' (looked for: loops, veiled, ifaces, maps, wideKeys, modest, calm, conditions, laid).
  DERIVED. THE GIVEN ROWS OF THIS SEAT. 12 by the template 'for every input the law returns true; each argument reads behind the call as it read before'; 0 by the template 'total and deterministic' (their statements: YtjemogbfgkilcaaTotals.lean).
  GIVEN WITH THE SEED: the statements are not yours to turn. If you find one false, say at which input.
  Laid BY PROGRAM, IN A SANDBOX (cutbox-rows.mjs): the forced cells as the released guide's own fill.sh prints them over the translation d687a5209477c07f… (all of the seat's roots in one cut). By AI agents, Wed Nov 11 2026. No macro, syntax, notation, axiom, sorry.
-/
import Derived.Test.YtjemogbfgkilcaaChecked
import GoSem.Claim
import GoSem.ClaimJoined
import GoSem.ClaimMapViews
import Derived.JoinedTies
import Derived.KernelRfl
namespace Go.Proofs.Ytjemogbfgkilcaa
/- THE CELL 'sum', in the pinned program and in every row, IS THE sha256 OF THE DUMP (.gsa) THAT YtjemogbfgkilcaaProg.lean LOADS. Nothing in Lean hashes anything: it is a label: what it is worth is what the hold of that sum in a sandbox is worth. -/
noncomputable def Try.pinned : Pinned := { name := "ytjemogbfgkilcaa", sum := "d687a5209477c07f916021ca14b6cea54d4bc2316314db63ea1a8c78624f8e20", checked := Try.checked }
namespace Rows
def none {H : Type} : Left H := { results := [], args := [] }

/-- 'laws.FnExactSameLevel': WHATEVER THE INPUT: true; the input reads as it did. -/
def fnExactSameLevelSpec : ChangeSpec := { name := "fnExactSameLevel", fn := fun _ => fun
  | [d1, d2] => { results := [.lit (.bool true)], args := [d1, d2] }
  | _ => none }
def fnExactSameLevelRow : OpenClaim := { program := "ytjemogbfgkilcaa", sum := "d687a5209477c07f916021ca14b6cea54d4bc2316314db63ea1a8c78624f8e20", func := "loop.example/g01375/laws.FnExactSameLevel", spec := "fnExactSameLevel", inPlace := ["math.Float32bits", "math.Float64bits"], apart := false }
def FnExactSameLevelSaid : Prop := fnExactSameLevelRow.holds Try.pinned (OpenSpec.ofChange fnExactSameLevelSpec)

/-- ITS FALSE NEIGHBOUR: 'it returns false'. Refute it at one input. -/
def fnExactSameLevelWrong : ChangeSpec := { name := "fnExactSameLevel", fn := fun _ => fun
  | [d1, d2] => { results := [.lit (.bool false)], args := [d1, d2] }
  | _ => none }
def FnExactSameLevelWrongFalsely : Prop := fnExactSameLevelRow.holds Try.pinned (OpenSpec.ofChange fnExactSameLevelWrong)

/-- 'laws.FnExactValidLevel': WHATEVER THE INPUT: true; the input reads as it did. -/
def fnExactValidLevelSpec : ChangeSpec := { name := "fnExactValidLevel", fn := fun _ => fun
  | [d] => { results := [.lit (.bool true)], args := [d] }
  | _ => none }
def fnExactValidLevelRow : OpenClaim := { program := "ytjemogbfgkilcaa", sum := "d687a5209477c07f916021ca14b6cea54d4bc2316314db63ea1a8c78624f8e20", func := "loop.example/g01375/laws.FnExactValidLevel", spec := "fnExactValidLevel", unfollowed := true, recurses := true, apart := false }
def FnExactValidLevelSaid : Prop := fnExactValidLevelRow.holds Try.pinned (OpenSpec.ofChange fnExactValidLevelSpec)

/-- ITS FALSE NEIGHBOUR: 'it returns false'. Refute it at one input. -/
def fnExactValidLevelWrong : ChangeSpec := { name := "fnExactValidLevel", fn := fun _ => fun
  | [d] => { results := [.lit (.bool false)], args := [d] }
  | _ => none }
def FnExactValidLevelWrongFalsely : Prop := fnExactValidLevelRow.holds Try.pinned (OpenSpec.ofChange fnExactValidLevelWrong)

/-- 'laws.FnExactCoverOf': WHATEVER THE INPUT: true; the input reads as it did. -/
def fnExactCoverOfSpec : ChangeSpec := { name := "fnExactCoverOf", fn := fun _ => fun
  | [d1, d2, d3] => { results := [.lit (.bool true)], args := [d1, d2, d3] }
  | _ => none }
def fnExactCoverOfRow : OpenClaim := { program := "ytjemogbfgkilcaa", sum := "d687a5209477c07f916021ca14b6cea54d4bc2316314db63ea1a8c78624f8e20", func := "loop.example/g01375/laws.FnExactCoverOf", spec := "fnExactCoverOf", unfollowed := true, recurses := true, apart := false }
def FnExactCoverOfSaid : Prop := fnExactCoverOfRow.holds Try.pinned (OpenSpec.ofChange fnExactCoverOfSpec)

/-- ITS FALSE NEIGHBOUR: 'it returns false'. Refute it at one input. -/
def fnExactCoverOfWrong : ChangeSpec := { name := "fnExactCoverOf", fn := fun _ => fun
  | [d1, d2, d3] => { results := [.lit (.bool false)], args := [d1, d2, d3] }
  | _ => none }
def FnExactCoverOfWrongFalsely : Prop := fnExactCoverOfRow.holds Try.pinned (OpenSpec.ofChange fnExactCoverOfWrong)

/-- 'laws.FnExactMeanMiss': WHATEVER THE INPUT: true; the input reads as it did. -/
def fnExactMeanMissSpec : ChangeSpec := { name := "fnExactMeanMiss", fn := fun _ => fun
  | [d1, d2] => { results := [.lit (.bool true)], args := [d1, d2] }
  | _ => none }
def fnExactMeanMissRow : OpenClaim := { program := "ytjemogbfgkilcaa", sum := "d687a5209477c07f916021ca14b6cea54d4bc2316314db63ea1a8c78624f8e20", func := "loop.example/g01375/laws.FnExactMeanMiss", spec := "fnExactMeanMiss", unfollowed := true, recurses := true, apart := false }
def FnExactMeanMissSaid : Prop := fnExactMeanMissRow.holds Try.pinned (OpenSpec.ofChange fnExactMeanMissSpec)

/-- ITS FALSE NEIGHBOUR: 'it returns false'. Refute it at one input. -/
def fnExactMeanMissWrong : ChangeSpec := { name := "fnExactMeanMiss", fn := fun _ => fun
  | [d1, d2] => { results := [.lit (.bool false)], args := [d1, d2] }
  | _ => none }
def FnExactMeanMissWrongFalsely : Prop := fnExactMeanMissRow.holds Try.pinned (OpenSpec.ofChange fnExactMeanMissWrong)

/-- 'laws.FnExactMeetMiddle': WHATEVER THE INPUT: true; the input reads as it did. -/
def fnExactMeetMiddleSpec : ChangeSpec := { name := "fnExactMeetMiddle", fn := fun _ => fun
  | [d1, d2] => { results := [.lit (.bool true)], args := [d1, d2] }
  | _ => none }
def fnExactMeetMiddleRow : OpenClaim := { program := "ytjemogbfgkilcaa", sum := "d687a5209477c07f916021ca14b6cea54d4bc2316314db63ea1a8c78624f8e20", func := "loop.example/g01375/laws.FnExactMeetMiddle", spec := "fnExactMeetMiddle", unfollowed := true, recurses := true, apart := false }
def FnExactMeetMiddleSaid : Prop := fnExactMeetMiddleRow.holds Try.pinned (OpenSpec.ofChange fnExactMeetMiddleSpec)

/-- ITS FALSE NEIGHBOUR: 'it returns false'. Refute it at one input. -/
def fnExactMeetMiddleWrong : ChangeSpec := { name := "fnExactMeetMiddle", fn := fun _ => fun
  | [d1, d2] => { results := [.lit (.bool false)], args := [d1, d2] }
  | _ => none }
def FnExactMeetMiddleWrongFalsely : Prop := fnExactMeetMiddleRow.holds Try.pinned (OpenSpec.ofChange fnExactMeetMiddleWrong)

/-- 'laws.FnExactIsCalm': WHATEVER THE INPUT: true; the input reads as it did. -/
def fnExactIsCalmSpec : ChangeSpec := { name := "fnExactIsCalm", fn := fun _ => fun
  | [d] => { results := [.lit (.bool true)], args := [d] }
  | _ => none }
def fnExactIsCalmRow : OpenClaim := { program := "ytjemogbfgkilcaa", sum := "d687a5209477c07f916021ca14b6cea54d4bc2316314db63ea1a8c78624f8e20", func := "loop.example/g01375/laws.FnExactIsCalm", spec := "fnExactIsCalm", unfollowed := true, recurses := true, apart := false }
def FnExactIsCalmSaid : Prop := fnExactIsCalmRow.holds Try.pinned (OpenSpec.ofChange fnExactIsCalmSpec)

/-- ITS FALSE NEIGHBOUR: 'it returns false'. Refute it at one input. -/
def fnExactIsCalmWrong : ChangeSpec := { name := "fnExactIsCalm", fn := fun _ => fun
  | [d] => { results := [.lit (.bool false)], args := [d] }
  | _ => none }
def FnExactIsCalmWrongFalsely : Prop := fnExactIsCalmRow.holds Try.pinned (OpenSpec.ofChange fnExactIsCalmWrong)

/-- 'laws.FnExactQuantileMiss': WHATEVER THE INPUT: true; the input reads as it did. -/
def fnExactQuantileMissSpec : ChangeSpec := { name := "fnExactQuantileMiss", fn := fun _ => fun
  | [d1, d2, d3] => { results := [.lit (.bool true)], args := [d1, d2, d3] }
  | _ => none }
def fnExactQuantileMissRow : OpenClaim := { program := "ytjemogbfgkilcaa", sum := "d687a5209477c07f916021ca14b6cea54d4bc2316314db63ea1a8c78624f8e20", func := "loop.example/g01375/laws.FnExactQuantileMiss", spec := "fnExactQuantileMiss", unfollowed := true, recurses := true, apart := false }
def FnExactQuantileMissSaid : Prop := fnExactQuantileMissRow.holds Try.pinned (OpenSpec.ofChange fnExactQuantileMissSpec)

/-- ITS FALSE NEIGHBOUR: 'it returns false'. Refute it at one input. -/
def fnExactQuantileMissWrong : ChangeSpec := { name := "fnExactQuantileMiss", fn := fun _ => fun
  | [d1, d2, d3] => { results := [.lit (.bool false)], args := [d1, d2, d3] }
  | _ => none }
def FnExactQuantileMissWrongFalsely : Prop := fnExactQuantileMissRow.holds Try.pinned (OpenSpec.ofChange fnExactQuantileMissWrong)

/-- 'laws.FnReconciled': WHATEVER THE INPUT: true; the input reads as it did. -/
def fnReconciledSpec : ChangeSpec := { name := "fnReconciled", fn := fun _ => fun
  | [d1, d2] => { results := [.lit (.bool true)], args := [d1, d2] }
  | _ => none }
def fnReconciledRow : OpenClaim := { program := "ytjemogbfgkilcaa", sum := "d687a5209477c07f916021ca14b6cea54d4bc2316314db63ea1a8c78624f8e20", func := "loop.example/g01375/laws.FnReconciled", spec := "fnReconciled", unfollowed := true, recurses := true, apart := false }
def FnReconciledSaid : Prop := fnReconciledRow.holds Try.pinned (OpenSpec.ofChange fnReconciledSpec)

/-- ITS FALSE NEIGHBOUR: 'it returns false'. Refute it at one input. -/
def fnReconciledWrong : ChangeSpec := { name := "fnReconciled", fn := fun _ => fun
  | [d1, d2] => { results := [.lit (.bool false)], args := [d1, d2] }
  | _ => none }
def FnReconciledWrongFalsely : Prop := fnReconciledRow.holds Try.pinned (OpenSpec.ofChange fnReconciledWrong)

/-- 'laws.FnExactSizeMiss': WHATEVER THE INPUT: true; the input reads as it did. -/
def fnExactSizeMissSpec : ChangeSpec := { name := "fnExactSizeMiss", fn := fun _ => fun
  | [d1, d2] => { results := [.lit (.bool true)], args := [d1, d2] }
  | _ => none }
def fnExactSizeMissRow : OpenClaim := { program := "ytjemogbfgkilcaa", sum := "d687a5209477c07f916021ca14b6cea54d4bc2316314db63ea1a8c78624f8e20", func := "loop.example/g01375/laws.FnExactSizeMiss", spec := "fnExactSizeMiss", unfollowed := true, recurses := true, apart := false }
def FnExactSizeMissSaid : Prop := fnExactSizeMissRow.holds Try.pinned (OpenSpec.ofChange fnExactSizeMissSpec)

/-- ITS FALSE NEIGHBOUR: 'it returns false'. Refute it at one input. -/
def fnExactSizeMissWrong : ChangeSpec := { name := "fnExactSizeMiss", fn := fun _ => fun
  | [d1, d2] => { results := [.lit (.bool false)], args := [d1, d2] }
  | _ => none }
def FnExactSizeMissWrongFalsely : Prop := fnExactSizeMissRow.holds Try.pinned (OpenSpec.ofChange fnExactSizeMissWrong)

/-- 'laws.FnExactShareMiss': WHATEVER THE INPUT: true; the input reads as it did. -/
def fnExactShareMissSpec : ChangeSpec := { name := "fnExactShareMiss", fn := fun _ => fun
  | [d1, d2] => { results := [.lit (.bool true)], args := [d1, d2] }
  | _ => none }
def fnExactShareMissRow : OpenClaim := { program := "ytjemogbfgkilcaa", sum := "d687a5209477c07f916021ca14b6cea54d4bc2316314db63ea1a8c78624f8e20", func := "loop.example/g01375/laws.FnExactShareMiss", spec := "fnExactShareMiss", unfollowed := true, recurses := true, apart := false }
def FnExactShareMissSaid : Prop := fnExactShareMissRow.holds Try.pinned (OpenSpec.ofChange fnExactShareMissSpec)

/-- ITS FALSE NEIGHBOUR: 'it returns false'. Refute it at one input. -/
def fnExactShareMissWrong : ChangeSpec := { name := "fnExactShareMiss", fn := fun _ => fun
  | [d1, d2] => { results := [.lit (.bool false)], args := [d1, d2] }
  | _ => none }
def FnExactShareMissWrongFalsely : Prop := fnExactShareMissRow.holds Try.pinned (OpenSpec.ofChange fnExactShareMissWrong)

/-- 'laws.FnExactSameRegimes': WHATEVER THE INPUT: true; the input reads as it did. -/
def fnExactSameRegimesSpec : ChangeSpec := { name := "fnExactSameRegimes", fn := fun _ => fun
  | [d1, d2] => { results := [.lit (.bool true)], args := [d1, d2] }
  | _ => none }
def fnExactSameRegimesRow : OpenClaim := { program := "ytjemogbfgkilcaa", sum := "d687a5209477c07f916021ca14b6cea54d4bc2316314db63ea1a8c78624f8e20", func := "loop.example/g01375/laws.FnExactSameRegimes", spec := "fnExactSameRegimes", inPlace := ["math.Float32bits", "math.Float64bits"], unfollowed := true, recurses := true, apart := false }
def FnExactSameRegimesSaid : Prop := fnExactSameRegimesRow.holds Try.pinned (OpenSpec.ofChange fnExactSameRegimesSpec)

/-- ITS FALSE NEIGHBOUR: 'it returns false'. Refute it at one input. -/
def fnExactSameRegimesWrong : ChangeSpec := { name := "fnExactSameRegimes", fn := fun _ => fun
  | [d1, d2] => { results := [.lit (.bool false)], args := [d1, d2] }
  | _ => none }
def FnExactSameRegimesWrongFalsely : Prop := fnExactSameRegimesRow.holds Try.pinned (OpenSpec.ofChange fnExactSameRegimesWrong)

/-- 'laws.FnExactPastRests': WHATEVER THE INPUT: true; the input reads as it did. -/
def fnExactPastRestsSpec : ChangeSpec := { name := "fnExactPastRests", fn := fun _ => fun
  | [d1, d2, d3] => { results := [.lit (.bool true)], args := [d1, d2, d3] }
  | _ => none }
def fnExactPastRestsRow : OpenClaim := { program := "ytjemogbfgkilcaa", sum := "d687a5209477c07f916021ca14b6cea54d4bc2316314db63ea1a8c78624f8e20", func := "loop.example/g01375/laws.FnExactPastRests", spec := "fnExactPastRests", unfollowed := true, recurses := true, apart := false }
def FnExactPastRestsSaid : Prop := fnExactPastRestsRow.holds Try.pinned (OpenSpec.ofChange fnExactPastRestsSpec)

/-- ITS FALSE NEIGHBOUR: 'it returns false'. Refute it at one input. -/
def fnExactPastRestsWrong : ChangeSpec := { name := "fnExactPastRests", fn := fun _ => fun
  | [d1, d2, d3] => { results := [.lit (.bool false)], args := [d1, d2, d3] }
  | _ => none }
def FnExactPastRestsWrongFalsely : Prop := fnExactPastRestsRow.holds Try.pinned (OpenSpec.ofChange fnExactPastRestsWrong)

/- THE SECOND FORM. 'bulk': how many values and letters a reading holds, each counted each time it is reached (what is shared counts as often as it is met; a slice's spare places count too). A statement '..UptoSaid' is the law's where the arguments, and the package variables that the reading takes, are together of bulk at most 1048576: NARROWER than '..Said'. Prove '..Said' where nothing that the law and all that it calls make is longer than what came in: it says more and counts as full. Else prove '..UptoSaid'. A law counts once. -/
mutual
def uptoBulk {H : Type} : DataW H → Nat
  | .lit (.string bytes) => bytes.length + 1
  | .lit _ => 1
  | .nil => 1
  | .ptr d => uptoBulk d + 1
  | .slice elems spare => uptoBulkAll elems + uptoBulkAll spare + 1
  | .agg parts => uptoBulkAll parts + 1
  | .iface _ d => uptoBulk d + 1
  | .map entries => uptoBulkEntries entries + 1
  | .held _ => 1
def uptoBulkAll {H : Type} : List (DataW H) → Nat
  | [] => 0
  | d :: r => uptoBulk d + uptoBulkAll r
def uptoBulkEntries {H : Type} : List (Lit × DataW H) → Nat
  | [] => 0
  | x :: r => uptoBulkEntry x + uptoBulkEntries r
def uptoBulkEntry {H : Type} : Lit × DataW H → Nat
  | (.string bytes, d) => bytes.length + uptoBulk d + 1
  | (_, d) => uptoBulk d + 1
 end
def uptoSmall : (H : Type) → List (DataW H) → Bool := fun _ ds => decide (uptoBulkAll ds ≤ 1048576)
def OpenSpec.upto (s : _root_.Go.ChangeSpec) : _root_.Go.OpenSpec := { _root_.Go.OpenSpec.ofChange s with cond := some uptoSmall }

/-- 'laws.FnExactSameLevel', WHERE WHAT IT READS IS OF BULK AT MOST 1048576: true; the input reads as it did. -/
def fnExactSameLevelUptoRow : OpenClaim := { program := "ytjemogbfgkilcaa", sum := "d687a5209477c07f916021ca14b6cea54d4bc2316314db63ea1a8c78624f8e20", func := "loop.example/g01375/laws.FnExactSameLevel", spec := "fnExactSameLevel", inPlace := ["math.Float32bits", "math.Float64bits"], apart := false, narrowed := true }
def FnExactSameLevelUptoSaid : Prop := fnExactSameLevelUptoRow.holds Try.pinned (OpenSpec.upto fnExactSameLevelSpec)

/-- 'laws.FnExactValidLevel', WHERE WHAT IT READS IS OF BULK AT MOST 1048576: true; the input reads as it did. -/
def fnExactValidLevelUptoRow : OpenClaim := { program := "ytjemogbfgkilcaa", sum := "d687a5209477c07f916021ca14b6cea54d4bc2316314db63ea1a8c78624f8e20", func := "loop.example/g01375/laws.FnExactValidLevel", spec := "fnExactValidLevel", unfollowed := true, recurses := true, apart := false, narrowed := true }
def FnExactValidLevelUptoSaid : Prop := fnExactValidLevelUptoRow.holds Try.pinned (OpenSpec.upto fnExactValidLevelSpec)

/-- 'laws.FnExactCoverOf', WHERE WHAT IT READS IS OF BULK AT MOST 1048576: true; the input reads as it did. -/
def fnExactCoverOfUptoRow : OpenClaim := { program := "ytjemogbfgkilcaa", sum := "d687a5209477c07f916021ca14b6cea54d4bc2316314db63ea1a8c78624f8e20", func := "loop.example/g01375/laws.FnExactCoverOf", spec := "fnExactCoverOf", unfollowed := true, recurses := true, apart := false, narrowed := true }
def FnExactCoverOfUptoSaid : Prop := fnExactCoverOfUptoRow.holds Try.pinned (OpenSpec.upto fnExactCoverOfSpec)

/-- 'laws.FnExactMeanMiss', WHERE WHAT IT READS IS OF BULK AT MOST 1048576: true; the input reads as it did. -/
def fnExactMeanMissUptoRow : OpenClaim := { program := "ytjemogbfgkilcaa", sum := "d687a5209477c07f916021ca14b6cea54d4bc2316314db63ea1a8c78624f8e20", func := "loop.example/g01375/laws.FnExactMeanMiss", spec := "fnExactMeanMiss", unfollowed := true, recurses := true, apart := false, narrowed := true }
def FnExactMeanMissUptoSaid : Prop := fnExactMeanMissUptoRow.holds Try.pinned (OpenSpec.upto fnExactMeanMissSpec)

/-- 'laws.FnExactMeetMiddle', WHERE WHAT IT READS IS OF BULK AT MOST 1048576: true; the input reads as it did. -/
def fnExactMeetMiddleUptoRow : OpenClaim := { program := "ytjemogbfgkilcaa", sum := "d687a5209477c07f916021ca14b6cea54d4bc2316314db63ea1a8c78624f8e20", func := "loop.example/g01375/laws.FnExactMeetMiddle", spec := "fnExactMeetMiddle", unfollowed := true, recurses := true, apart := false, narrowed := true }
def FnExactMeetMiddleUptoSaid : Prop := fnExactMeetMiddleUptoRow.holds Try.pinned (OpenSpec.upto fnExactMeetMiddleSpec)

/-- 'laws.FnExactIsCalm', WHERE WHAT IT READS IS OF BULK AT MOST 1048576: true; the input reads as it did. -/
def fnExactIsCalmUptoRow : OpenClaim := { program := "ytjemogbfgkilcaa", sum := "d687a5209477c07f916021ca14b6cea54d4bc2316314db63ea1a8c78624f8e20", func := "loop.example/g01375/laws.FnExactIsCalm", spec := "fnExactIsCalm", unfollowed := true, recurses := true, apart := false, narrowed := true }
def FnExactIsCalmUptoSaid : Prop := fnExactIsCalmUptoRow.holds Try.pinned (OpenSpec.upto fnExactIsCalmSpec)

/-- 'laws.FnExactQuantileMiss', WHERE WHAT IT READS IS OF BULK AT MOST 1048576: true; the input reads as it did. -/
def fnExactQuantileMissUptoRow : OpenClaim := { program := "ytjemogbfgkilcaa", sum := "d687a5209477c07f916021ca14b6cea54d4bc2316314db63ea1a8c78624f8e20", func := "loop.example/g01375/laws.FnExactQuantileMiss", spec := "fnExactQuantileMiss", unfollowed := true, recurses := true, apart := false, narrowed := true }
def FnExactQuantileMissUptoSaid : Prop := fnExactQuantileMissUptoRow.holds Try.pinned (OpenSpec.upto fnExactQuantileMissSpec)

/-- 'laws.FnReconciled', WHERE WHAT IT READS IS OF BULK AT MOST 1048576: true; the input reads as it did. -/
def fnReconciledUptoRow : OpenClaim := { program := "ytjemogbfgkilcaa", sum := "d687a5209477c07f916021ca14b6cea54d4bc2316314db63ea1a8c78624f8e20", func := "loop.example/g01375/laws.FnReconciled", spec := "fnReconciled", unfollowed := true, recurses := true, apart := false, narrowed := true }
def FnReconciledUptoSaid : Prop := fnReconciledUptoRow.holds Try.pinned (OpenSpec.upto fnReconciledSpec)

/-- 'laws.FnExactSizeMiss', WHERE WHAT IT READS IS OF BULK AT MOST 1048576: true; the input reads as it did. -/
def fnExactSizeMissUptoRow : OpenClaim := { program := "ytjemogbfgkilcaa", sum := "d687a5209477c07f916021ca14b6cea54d4bc2316314db63ea1a8c78624f8e20", func := "loop.example/g01375/laws.FnExactSizeMiss", spec := "fnExactSizeMiss", unfollowed := true, recurses := true, apart := false, narrowed := true }
def FnExactSizeMissUptoSaid : Prop := fnExactSizeMissUptoRow.holds Try.pinned (OpenSpec.upto fnExactSizeMissSpec)

/-- 'laws.FnExactShareMiss', WHERE WHAT IT READS IS OF BULK AT MOST 1048576: true; the input reads as it did. -/
def fnExactShareMissUptoRow : OpenClaim := { program := "ytjemogbfgkilcaa", sum := "d687a5209477c07f916021ca14b6cea54d4bc2316314db63ea1a8c78624f8e20", func := "loop.example/g01375/laws.FnExactShareMiss", spec := "fnExactShareMiss", unfollowed := true, recurses := true, apart := false, narrowed := true }
def FnExactShareMissUptoSaid : Prop := fnExactShareMissUptoRow.holds Try.pinned (OpenSpec.upto fnExactShareMissSpec)

/-- 'laws.FnExactSameRegimes', WHERE WHAT IT READS IS OF BULK AT MOST 1048576: true; the input reads as it did. -/
def fnExactSameRegimesUptoRow : OpenClaim := { program := "ytjemogbfgkilcaa", sum := "d687a5209477c07f916021ca14b6cea54d4bc2316314db63ea1a8c78624f8e20", func := "loop.example/g01375/laws.FnExactSameRegimes", spec := "fnExactSameRegimes", inPlace := ["math.Float32bits", "math.Float64bits"], unfollowed := true, recurses := true, apart := false, narrowed := true }
def FnExactSameRegimesUptoSaid : Prop := fnExactSameRegimesUptoRow.holds Try.pinned (OpenSpec.upto fnExactSameRegimesSpec)

/-- 'laws.FnExactPastRests', WHERE WHAT IT READS IS OF BULK AT MOST 1048576: true; the input reads as it did. -/
def fnExactPastRestsUptoRow : OpenClaim := { program := "ytjemogbfgkilcaa", sum := "d687a5209477c07f916021ca14b6cea54d4bc2316314db63ea1a8c78624f8e20", func := "loop.example/g01375/laws.FnExactPastRests", spec := "fnExactPastRests", unfollowed := true, recurses := true, apart := false, narrowed := true }
def FnExactPastRestsUptoSaid : Prop := fnExactPastRestsUptoRow.holds Try.pinned (OpenSpec.upto fnExactPastRestsSpec)

end Rows
end Go.Proofs.Ytjemogbfgkilcaa
