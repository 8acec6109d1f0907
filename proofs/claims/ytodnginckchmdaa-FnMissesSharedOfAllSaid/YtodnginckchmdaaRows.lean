/-
  No cell of these rows narrows 'for every input' (looked for: loops, veiled, ifaces, maps, wideKeys, modest, calm, conditions, laid).
  DERIVED. THE GIVEN ROWS OF THIS SEAT. 12 by the template 'for every input the law returns true; each argument reads behind the call as it read before'; 0 by the template 'total and deterministic' (their statements: YtodnginckchmdaaTotals.lean).
  GIVEN WITH THE SEED: the statements are not yours to turn. If you find one false, say at which input.
  Laid BY PROGRAM, IN A SANDBOX (cutbox-rows.mjs): the forced cells as the released guide's own fill.sh prints them over the translation d036101964e8049c… (all of the seat's roots in one cut). By AI agents, Wed Nov 11 2026. No macro, syntax, notation, axiom, sorry.
-/
import Derived.Test.YtodnginckchmdaaChecked
import GoSem.Claim
import GoSem.ClaimJoined
import GoSem.ClaimMapViews
import Derived.JoinedTies
import Derived.KernelRfl
namespace Go.Proofs.Ytodnginckchmdaa
/- THE CELL 'sum', in the pinned program and in every row, IS THE sha256 OF THE DUMP (.gsa) THAT YtodnginckchmdaaProg.lean LOADS. Nothing in Lean hashes anything: it is a label: what it is worth is what the hold of that sum in a sandbox is worth. -/
noncomputable def Try.pinned : Pinned := { name := "ytodnginckchmdaa", sum := "d036101964e8049c669a4c961c1c734f501ac0eab1ca9a993d319a0b6a6f7018", checked := Try.checked }
namespace Rows
def none {H : Type} : Left H := { results := [], args := [] }

/-- 'laws.FnExactForecastBy': WHATEVER THE INPUT: true; the input reads as it did. -/
def fnExactForecastBySpec : ChangeSpec := { name := "fnExactForecastBy", fn := fun _ => fun
  | [d1, d2, d3, d4] => { results := [.lit (.bool true)], args := [d1, d2, d3, d4] }
  | _ => none }
def fnExactForecastByRow : OpenClaim := { program := "ytodnginckchmdaa", sum := "d036101964e8049c669a4c961c1c734f501ac0eab1ca9a993d319a0b6a6f7018", func := "loop.example/g01375/laws.FnExactForecastBy", spec := "fnExactForecastBy", unfollowed := true, recurses := true, apart := false }
def FnExactForecastBySaid : Prop := fnExactForecastByRow.holds Try.pinned (OpenSpec.ofChange fnExactForecastBySpec)

/-- ITS FALSE NEIGHBOUR: 'it returns false'. Refute it at one input. -/
def fnExactForecastByWrong : ChangeSpec := { name := "fnExactForecastBy", fn := fun _ => fun
  | [d1, d2, d3, d4] => { results := [.lit (.bool false)], args := [d1, d2, d3, d4] }
  | _ => none }
def FnExactForecastByWrongFalsely : Prop := fnExactForecastByRow.holds Try.pinned (OpenSpec.ofChange fnExactForecastByWrong)

/-- 'laws.FnExactRollMisses': WHATEVER THE INPUT: true; the input reads as it did. -/
def fnExactRollMissesSpec : ChangeSpec := { name := "fnExactRollMisses", fn := fun _ => fun
  | [d1, d2, d3, d4, d5] => { results := [.lit (.bool true)], args := [d1, d2, d3, d4, d5] }
  | _ => none }
def fnExactRollMissesRow : OpenClaim := { program := "ytodnginckchmdaa", sum := "d036101964e8049c669a4c961c1c734f501ac0eab1ca9a993d319a0b6a6f7018", func := "loop.example/g01375/laws.FnExactRollMisses", spec := "fnExactRollMisses", unfollowed := true, recurses := true, apart := false }
def FnExactRollMissesSaid : Prop := fnExactRollMissesRow.holds Try.pinned (OpenSpec.ofChange fnExactRollMissesSpec)

/-- ITS FALSE NEIGHBOUR: 'it returns false'. Refute it at one input. -/
def fnExactRollMissesWrong : ChangeSpec := { name := "fnExactRollMisses", fn := fun _ => fun
  | [d1, d2, d3, d4, d5] => { results := [.lit (.bool false)], args := [d1, d2, d3, d4, d5] }
  | _ => none }
def FnExactRollMissesWrongFalsely : Prop := fnExactRollMissesRow.holds Try.pinned (OpenSpec.ofChange fnExactRollMissesWrong)

/-- 'laws.FnExactBestKind': WHATEVER THE INPUT: true; the input reads as it did. -/
def fnExactBestKindSpec : ChangeSpec := { name := "fnExactBestKind", fn := fun _ => fun
  | [d1, d2, d3, d4] => { results := [.lit (.bool true)], args := [d1, d2, d3, d4] }
  | _ => none }
def fnExactBestKindRow : OpenClaim := { program := "ytodnginckchmdaa", sum := "d036101964e8049c669a4c961c1c734f501ac0eab1ca9a993d319a0b6a6f7018", func := "loop.example/g01375/laws.FnExactBestKind", spec := "fnExactBestKind", unfollowed := true, recurses := true, apart := false }
def FnExactBestKindSaid : Prop := fnExactBestKindRow.holds Try.pinned (OpenSpec.ofChange fnExactBestKindSpec)

/-- ITS FALSE NEIGHBOUR: 'it returns false'. Refute it at one input. -/
def fnExactBestKindWrong : ChangeSpec := { name := "fnExactBestKind", fn := fun _ => fun
  | [d1, d2, d3, d4] => { results := [.lit (.bool false)], args := [d1, d2, d3, d4] }
  | _ => none }
def FnExactBestKindWrongFalsely : Prop := fnExactBestKindRow.holds Try.pinned (OpenSpec.ofChange fnExactBestKindWrong)

/-- 'laws.FnExactRollsShared': WHATEVER THE INPUT: true; the input reads as it did. -/
def fnExactRollsSharedSpec : ChangeSpec := { name := "fnExactRollsShared", fn := fun _ => fun
  | [d1, d2, d3, d4, d5, d6] => { results := [.lit (.bool true)], args := [d1, d2, d3, d4, d5, d6] }
  | _ => none }
def fnExactRollsSharedRow : OpenClaim := { program := "ytodnginckchmdaa", sum := "d036101964e8049c669a4c961c1c734f501ac0eab1ca9a993d319a0b6a6f7018", func := "loop.example/g01375/laws.FnExactRollsShared", spec := "fnExactRollsShared", unfollowed := true, recurses := true, apart := false }
def FnExactRollsSharedSaid : Prop := fnExactRollsSharedRow.holds Try.pinned (OpenSpec.ofChange fnExactRollsSharedSpec)

/-- ITS FALSE NEIGHBOUR: 'it returns false'. Refute it at one input. -/
def fnExactRollsSharedWrong : ChangeSpec := { name := "fnExactRollsShared", fn := fun _ => fun
  | [d1, d2, d3, d4, d5, d6] => { results := [.lit (.bool false)], args := [d1, d2, d3, d4, d5, d6] }
  | _ => none }
def FnExactRollsSharedWrongFalsely : Prop := fnExactRollsSharedRow.holds Try.pinned (OpenSpec.ofChange fnExactRollsSharedWrong)

/-- 'laws.FnRollsSharedOfAll': WHATEVER THE INPUT: true; the input reads as it did. -/
def fnRollsSharedOfAllSpec : ChangeSpec := { name := "fnRollsSharedOfAll", fn := fun _ => fun
  | [d1, d2, d3, d4, d5, d6, d7] => { results := [.lit (.bool true)], args := [d1, d2, d3, d4, d5, d6, d7] }
  | _ => none }
def fnRollsSharedOfAllRow : OpenClaim := { program := "ytodnginckchmdaa", sum := "d036101964e8049c669a4c961c1c734f501ac0eab1ca9a993d319a0b6a6f7018", func := "loop.example/g01375/laws.FnRollsSharedOfAll", spec := "fnRollsSharedOfAll", unfollowed := true, recurses := true, apart := false }
def FnRollsSharedOfAllSaid : Prop := fnRollsSharedOfAllRow.holds Try.pinned (OpenSpec.ofChange fnRollsSharedOfAllSpec)

/-- ITS FALSE NEIGHBOUR: 'it returns false'. Refute it at one input. -/
def fnRollsSharedOfAllWrong : ChangeSpec := { name := "fnRollsSharedOfAll", fn := fun _ => fun
  | [d1, d2, d3, d4, d5, d6, d7] => { results := [.lit (.bool false)], args := [d1, d2, d3, d4, d5, d6, d7] }
  | _ => none }
def FnRollsSharedOfAllWrongFalsely : Prop := fnRollsSharedOfAllRow.holds Try.pinned (OpenSpec.ofChange fnRollsSharedOfAllWrong)

/-- 'laws.FnExactMissesOf': WHATEVER THE INPUT: true; the input reads as it did. -/
def fnExactMissesOfSpec : ChangeSpec := { name := "fnExactMissesOf", fn := fun _ => fun
  | [d1, d2, d3] => { results := [.lit (.bool true)], args := [d1, d2, d3] }
  | _ => none }
def fnExactMissesOfRow : OpenClaim := { program := "ytodnginckchmdaa", sum := "d036101964e8049c669a4c961c1c734f501ac0eab1ca9a993d319a0b6a6f7018", func := "loop.example/g01375/laws.FnExactMissesOf", spec := "fnExactMissesOf", unfollowed := true, recurses := true, apart := false }
def FnExactMissesOfSaid : Prop := fnExactMissesOfRow.holds Try.pinned (OpenSpec.ofChange fnExactMissesOfSpec)

/-- ITS FALSE NEIGHBOUR: 'it returns false'. Refute it at one input. -/
def fnExactMissesOfWrong : ChangeSpec := { name := "fnExactMissesOf", fn := fun _ => fun
  | [d1, d2, d3] => { results := [.lit (.bool false)], args := [d1, d2, d3] }
  | _ => none }
def FnExactMissesOfWrongFalsely : Prop := fnExactMissesOfRow.holds Try.pinned (OpenSpec.ofChange fnExactMissesOfWrong)

/-- 'laws.FnExactRunStates': WHATEVER THE INPUT: true; the input reads as it did. -/
def fnExactRunStatesSpec : ChangeSpec := { name := "fnExactRunStates", fn := fun _ => fun
  | [d1, d2, d3] => { results := [.lit (.bool true)], args := [d1, d2, d3] }
  | _ => none }
def fnExactRunStatesRow : OpenClaim := { program := "ytodnginckchmdaa", sum := "d036101964e8049c669a4c961c1c734f501ac0eab1ca9a993d319a0b6a6f7018", func := "loop.example/g01375/laws.FnExactRunStates", spec := "fnExactRunStates", unfollowed := true, recurses := true, apart := false }
def FnExactRunStatesSaid : Prop := fnExactRunStatesRow.holds Try.pinned (OpenSpec.ofChange fnExactRunStatesSpec)

/-- ITS FALSE NEIGHBOUR: 'it returns false'. Refute it at one input. -/
def fnExactRunStatesWrong : ChangeSpec := { name := "fnExactRunStates", fn := fun _ => fun
  | [d1, d2, d3] => { results := [.lit (.bool false)], args := [d1, d2, d3] }
  | _ => none }
def FnExactRunStatesWrongFalsely : Prop := fnExactRunStatesRow.holds Try.pinned (OpenSpec.ofChange fnExactRunStatesWrong)

/-- 'laws.FnExactMissOfShares': WHATEVER THE INPUT: true; the input reads as it did. -/
def fnExactMissOfSharesSpec : ChangeSpec := { name := "fnExactMissOfShares", fn := fun _ => fun
  | [d1, d2, d3] => { results := [.lit (.bool true)], args := [d1, d2, d3] }
  | _ => none }
def fnExactMissOfSharesRow : OpenClaim := { program := "ytodnginckchmdaa", sum := "d036101964e8049c669a4c961c1c734f501ac0eab1ca9a993d319a0b6a6f7018", func := "loop.example/g01375/laws.FnExactMissOfShares", spec := "fnExactMissOfShares", unfollowed := true, recurses := true, apart := false }
def FnExactMissOfSharesSaid : Prop := fnExactMissOfSharesRow.holds Try.pinned (OpenSpec.ofChange fnExactMissOfSharesSpec)

/-- ITS FALSE NEIGHBOUR: 'it returns false'. Refute it at one input. -/
def fnExactMissOfSharesWrong : ChangeSpec := { name := "fnExactMissOfShares", fn := fun _ => fun
  | [d1, d2, d3] => { results := [.lit (.bool false)], args := [d1, d2, d3] }
  | _ => none }
def FnExactMissOfSharesWrongFalsely : Prop := fnExactMissOfSharesRow.holds Try.pinned (OpenSpec.ofChange fnExactMissOfSharesWrong)

/-- 'laws.FnExactMissesShared': WHATEVER THE INPUT: true; the input reads as it did. -/
def fnExactMissesSharedSpec : ChangeSpec := { name := "fnExactMissesShared", fn := fun _ => fun
  | [d1, d2, d3, d4] => { results := [.lit (.bool true)], args := [d1, d2, d3, d4] }
  | _ => none }
def fnExactMissesSharedRow : OpenClaim := { program := "ytodnginckchmdaa", sum := "d036101964e8049c669a4c961c1c734f501ac0eab1ca9a993d319a0b6a6f7018", func := "loop.example/g01375/laws.FnExactMissesShared", spec := "fnExactMissesShared", unfollowed := true, recurses := true, apart := false }
def FnExactMissesSharedSaid : Prop := fnExactMissesSharedRow.holds Try.pinned (OpenSpec.ofChange fnExactMissesSharedSpec)

/-- ITS FALSE NEIGHBOUR: 'it returns false'. Refute it at one input. -/
def fnExactMissesSharedWrong : ChangeSpec := { name := "fnExactMissesShared", fn := fun _ => fun
  | [d1, d2, d3, d4] => { results := [.lit (.bool false)], args := [d1, d2, d3, d4] }
  | _ => none }
def FnExactMissesSharedWrongFalsely : Prop := fnExactMissesSharedRow.holds Try.pinned (OpenSpec.ofChange fnExactMissesSharedWrong)

/-- 'laws.FnMissesSharedOfAll': WHATEVER THE INPUT: true; the input reads as it did. -/
def fnMissesSharedOfAllSpec : ChangeSpec := { name := "fnMissesSharedOfAll", fn := fun _ => fun
  | [d1, d2, d3, d4, d5] => { results := [.lit (.bool true)], args := [d1, d2, d3, d4, d5] }
  | _ => none }
def fnMissesSharedOfAllRow : OpenClaim := { program := "ytodnginckchmdaa", sum := "d036101964e8049c669a4c961c1c734f501ac0eab1ca9a993d319a0b6a6f7018", func := "loop.example/g01375/laws.FnMissesSharedOfAll", spec := "fnMissesSharedOfAll", unfollowed := true, recurses := true, apart := false }
def FnMissesSharedOfAllSaid : Prop := fnMissesSharedOfAllRow.holds Try.pinned (OpenSpec.ofChange fnMissesSharedOfAllSpec)

/-- ITS FALSE NEIGHBOUR: 'it returns false'. Refute it at one input. -/
def fnMissesSharedOfAllWrong : ChangeSpec := { name := "fnMissesSharedOfAll", fn := fun _ => fun
  | [d1, d2, d3, d4, d5] => { results := [.lit (.bool false)], args := [d1, d2, d3, d4, d5] }
  | _ => none }
def FnMissesSharedOfAllWrongFalsely : Prop := fnMissesSharedOfAllRow.holds Try.pinned (OpenSpec.ofChange fnMissesSharedOfAllWrong)

/-- 'laws.FnExactTreeSums': WHATEVER THE INPUT: true; the input reads as it did. -/
def fnExactTreeSumsSpec : ChangeSpec := { name := "fnExactTreeSums", fn := fun _ => fun
  | [d1, d2] => { results := [.lit (.bool true)], args := [d1, d2] }
  | _ => none }
def fnExactTreeSumsRow : OpenClaim := { program := "ytodnginckchmdaa", sum := "d036101964e8049c669a4c961c1c734f501ac0eab1ca9a993d319a0b6a6f7018", func := "loop.example/g01375/laws.FnExactTreeSums", spec := "fnExactTreeSums", unfollowed := true, recurses := true, apart := false }
def FnExactTreeSumsSaid : Prop := fnExactTreeSumsRow.holds Try.pinned (OpenSpec.ofChange fnExactTreeSumsSpec)

/-- ITS FALSE NEIGHBOUR: 'it returns false'. Refute it at one input. -/
def fnExactTreeSumsWrong : ChangeSpec := { name := "fnExactTreeSums", fn := fun _ => fun
  | [d1, d2] => { results := [.lit (.bool false)], args := [d1, d2] }
  | _ => none }
def FnExactTreeSumsWrongFalsely : Prop := fnExactTreeSumsRow.holds Try.pinned (OpenSpec.ofChange fnExactTreeSumsWrong)

/-- 'laws.FnExactSumUp': WHATEVER THE INPUT: true; the input reads as it did. -/
def fnExactSumUpSpec : ChangeSpec := { name := "fnExactSumUp", fn := fun _ => fun
  | [d1, d2] => { results := [.lit (.bool true)], args := [d1, d2] }
  | _ => none }
def fnExactSumUpRow : OpenClaim := { program := "ytodnginckchmdaa", sum := "d036101964e8049c669a4c961c1c734f501ac0eab1ca9a993d319a0b6a6f7018", func := "loop.example/g01375/laws.FnExactSumUp", spec := "fnExactSumUp", unfollowed := true, recurses := true, apart := false }
def FnExactSumUpSaid : Prop := fnExactSumUpRow.holds Try.pinned (OpenSpec.ofChange fnExactSumUpSpec)

/-- ITS FALSE NEIGHBOUR: 'it returns false'. Refute it at one input. -/
def fnExactSumUpWrong : ChangeSpec := { name := "fnExactSumUp", fn := fun _ => fun
  | [d1, d2] => { results := [.lit (.bool false)], args := [d1, d2] }
  | _ => none }
def FnExactSumUpWrongFalsely : Prop := fnExactSumUpRow.holds Try.pinned (OpenSpec.ofChange fnExactSumUpWrong)

/- THE SECOND FORM. 'bulk': how many values and letters a reading holds, each counted each time it is reached (what is shared counts as often as it is met; a slice's spare places count too). A statement '..UptoSaid' is the law's where the arguments, and the package variables that the reading takes, are together of bulk at most 1048576: NARROWER than '..Said'. Prove '..Said' where nothing that the law and all that it calls make is longer than what came in: it says more and counts as full. Else prove '..UptoSaid'. A law counts once. -/
mutual
def uptoBulk {H : Type} : DataW H → Nat
  | .lit (.string bytes) => bytes.length + 1
  | .lit _ => 1
  | .nil => 1
  | .ptr d => uptoBulk d + 1
  | .slice elems spare => uptoBulkAll elems + uptoBulkAll spare + 1
  | .agg parts => uptoBulkAll parts + 1
  | .iface _ d => uptoBulk d + 1
  | .map entries => uptoBulkEntries entries + 1
  | .held _ => 1
def uptoBulkAll {H : Type} : List (DataW H) → Nat
  | [] => 0
  | d :: r => uptoBulk d + uptoBulkAll r
def uptoBulkEntries {H : Type} : List (Lit × DataW H) → Nat
  | [] => 0
  | x :: r => uptoBulkEntry x + uptoBulkEntries r
def uptoBulkEntry {H : Type} : Lit × DataW H → Nat
  | (.string bytes, d) => bytes.length + uptoBulk d + 1
  | (_, d) => uptoBulk d + 1
 end
def uptoSmall : (H : Type) → List (DataW H) → Bool := fun _ ds => decide (uptoBulkAll ds ≤ 1048576)
def OpenSpec.upto (s : _root_.Go.ChangeSpec) : _root_.Go.OpenSpec := { _root_.Go.OpenSpec.ofChange s with cond := some uptoSmall }

/-- 'laws.FnExactForecastBy', WHERE WHAT IT READS IS OF BULK AT MOST 1048576: true; the input reads as it did. -/
def fnExactForecastByUptoRow : OpenClaim := { program := "ytodnginckchmdaa", sum := "d036101964e8049c669a4c961c1c734f501ac0eab1ca9a993d319a0b6a6f7018", func := "loop.example/g01375/laws.FnExactForecastBy", spec := "fnExactForecastBy", unfollowed := true, recurses := true, apart := false, narrowed := true }
def FnExactForecastByUptoSaid : Prop := fnExactForecastByUptoRow.holds Try.pinned (OpenSpec.upto fnExactForecastBySpec)

/-- 'laws.FnExactRollMisses', WHERE WHAT IT READS IS OF BULK AT MOST 1048576: true; the input reads as it did. -/
def fnExactRollMissesUptoRow : OpenClaim := { program := "ytodnginckchmdaa", sum := "d036101964e8049c669a4c961c1c734f501ac0eab1ca9a993d319a0b6a6f7018", func := "loop.example/g01375/laws.FnExactRollMisses", spec := "fnExactRollMisses", unfollowed := true, recurses := true, apart := false, narrowed := true }
def FnExactRollMissesUptoSaid : Prop := fnExactRollMissesUptoRow.holds Try.pinned (OpenSpec.upto fnExactRollMissesSpec)

/-- 'laws.FnExactBestKind', WHERE WHAT IT READS IS OF BULK AT MOST 1048576: true; the input reads as it did. -/
def fnExactBestKindUptoRow : OpenClaim := { program := "ytodnginckchmdaa", sum := "d036101964e8049c669a4c961c1c734f501ac0eab1ca9a993d319a0b6a6f7018", func := "loop.example/g01375/laws.FnExactBestKind", spec := "fnExactBestKind", unfollowed := true, recurses := true, apart := false, narrowed := true }
def FnExactBestKindUptoSaid : Prop := fnExactBestKindUptoRow.holds Try.pinned (OpenSpec.upto fnExactBestKindSpec)

/-- 'laws.FnExactRollsShared', WHERE WHAT IT READS IS OF BULK AT MOST 1048576: true; the input reads as it did. -/
def fnExactRollsSharedUptoRow : OpenClaim := { program := "ytodnginckchmdaa", sum := "d036101964e8049c669a4c961c1c734f501ac0eab1ca9a993d319a0b6a6f7018", func := "loop.example/g01375/laws.FnExactRollsShared", spec := "fnExactRollsShared", unfollowed := true, recurses := true, apart := false, narrowed := true }
def FnExactRollsSharedUptoSaid : Prop := fnExactRollsSharedUptoRow.holds Try.pinned (OpenSpec.upto fnExactRollsSharedSpec)

/-- 'laws.FnRollsSharedOfAll', WHERE WHAT IT READS IS OF BULK AT MOST 1048576: true; the input reads as it did. -/
def fnRollsSharedOfAllUptoRow : OpenClaim := { program := "ytodnginckchmdaa", sum := "d036101964e8049c669a4c961c1c734f501ac0eab1ca9a993d319a0b6a6f7018", func := "loop.example/g01375/laws.FnRollsSharedOfAll", spec := "fnRollsSharedOfAll", unfollowed := true, recurses := true, apart := false, narrowed := true }
def FnRollsSharedOfAllUptoSaid : Prop := fnRollsSharedOfAllUptoRow.holds Try.pinned (OpenSpec.upto fnRollsSharedOfAllSpec)

/-- 'laws.FnExactMissesOf', WHERE WHAT IT READS IS OF BULK AT MOST 1048576: true; the input reads as it did. -/
def fnExactMissesOfUptoRow : OpenClaim := { program := "ytodnginckchmdaa", sum := "d036101964e8049c669a4c961c1c734f501ac0eab1ca9a993d319a0b6a6f7018", func := "loop.example/g01375/laws.FnExactMissesOf", spec := "fnExactMissesOf", unfollowed := true, recurses := true, apart := false, narrowed := true }
def FnExactMissesOfUptoSaid : Prop := fnExactMissesOfUptoRow.holds Try.pinned (OpenSpec.upto fnExactMissesOfSpec)

/-- 'laws.FnExactRunStates', WHERE WHAT IT READS IS OF BULK AT MOST 1048576: true; the input reads as it did. -/
def fnExactRunStatesUptoRow : OpenClaim := { program := "ytodnginckchmdaa", sum := "d036101964e8049c669a4c961c1c734f501ac0eab1ca9a993d319a0b6a6f7018", func := "loop.example/g01375/laws.FnExactRunStates", spec := "fnExactRunStates", unfollowed := true, recurses := true, apart := false, narrowed := true }
def FnExactRunStatesUptoSaid : Prop := fnExactRunStatesUptoRow.holds Try.pinned (OpenSpec.upto fnExactRunStatesSpec)

/-- 'laws.FnExactMissOfShares', WHERE WHAT IT READS IS OF BULK AT MOST 1048576: true; the input reads as it did. -/
def fnExactMissOfSharesUptoRow : OpenClaim := { program := "ytodnginckchmdaa", sum := "d036101964e8049c669a4c961c1c734f501ac0eab1ca9a993d319a0b6a6f7018", func := "loop.example/g01375/laws.FnExactMissOfShares", spec := "fnExactMissOfShares", unfollowed := true, recurses := true, apart := false, narrowed := true }
def FnExactMissOfSharesUptoSaid : Prop := fnExactMissOfSharesUptoRow.holds Try.pinned (OpenSpec.upto fnExactMissOfSharesSpec)

/-- 'laws.FnExactMissesShared', WHERE WHAT IT READS IS OF BULK AT MOST 1048576: true; the input reads as it did. -/
def fnExactMissesSharedUptoRow : OpenClaim := { program := "ytodnginckchmdaa", sum := "d036101964e8049c669a4c961c1c734f501ac0eab1ca9a993d319a0b6a6f7018", func := "loop.example/g01375/laws.FnExactMissesShared", spec := "fnExactMissesShared", unfollowed := true, recurses := true, apart := false, narrowed := true }
def FnExactMissesSharedUptoSaid : Prop := fnExactMissesSharedUptoRow.holds Try.pinned (OpenSpec.upto fnExactMissesSharedSpec)

/-- 'laws.FnMissesSharedOfAll', WHERE WHAT IT READS IS OF BULK AT MOST 1048576: true; the input reads as it did. -/
def fnMissesSharedOfAllUptoRow : OpenClaim := { program := "ytodnginckchmdaa", sum := "d036101964e8049c669a4c961c1c734f501ac0eab1ca9a993d319a0b6a6f7018", func := "loop.example/g01375/laws.FnMissesSharedOfAll", spec := "fnMissesSharedOfAll", unfollowed := true, recurses := true, apart := false, narrowed := true }
def FnMissesSharedOfAllUptoSaid : Prop := fnMissesSharedOfAllUptoRow.holds Try.pinned (OpenSpec.upto fnMissesSharedOfAllSpec)

/-- 'laws.FnExactTreeSums', WHERE WHAT IT READS IS OF BULK AT MOST 1048576: true; the input reads as it did. -/
def fnExactTreeSumsUptoRow : OpenClaim := { program := "ytodnginckchmdaa", sum := "d036101964e8049c669a4c961c1c734f501ac0eab1ca9a993d319a0b6a6f7018", func := "loop.example/g01375/laws.FnExactTreeSums", spec := "fnExactTreeSums", unfollowed := true, recurses := true, apart := false, narrowed := true }
def FnExactTreeSumsUptoSaid : Prop := fnExactTreeSumsUptoRow.holds Try.pinned (OpenSpec.upto fnExactTreeSumsSpec)

/-- 'laws.FnExactSumUp', WHERE WHAT IT READS IS OF BULK AT MOST 1048576: true; the input reads as it did. -/
def fnExactSumUpUptoRow : OpenClaim := { program := "ytodnginckchmdaa", sum := "d036101964e8049c669a4c961c1c734f501ac0eab1ca9a993d319a0b6a6f7018", func := "loop.example/g01375/laws.FnExactSumUp", spec := "fnExactSumUp", unfollowed := true, recurses := true, apart := false, narrowed := true }
def FnExactSumUpUptoSaid : Prop := fnExactSumUpUptoRow.holds Try.pinned (OpenSpec.upto fnExactSumUpSpec)

end Rows
end Go.Proofs.Ytodnginckchmdaa
