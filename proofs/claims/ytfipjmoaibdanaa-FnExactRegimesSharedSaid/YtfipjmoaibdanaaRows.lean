/-
  No cell of these rows narrows 'for every input' (looked for: loops, veiled, ifaces, maps, wideKeys, modest, calm, conditions, laid).
  DERIVED. THE GIVEN ROWS OF THIS SEAT. 12 by the template 'for every input the law returns true; each argument reads behind the call as it read before'; 0 by the template 'total and deterministic' (their statements: YtfipjmoaibdanaaTotals.lean).
  GIVEN WITH THE SEED: the statements are not yours to turn. If you find one false, say at which input.
  Laid BY PROGRAM, IN A SANDBOX (cutbox-rows.mjs): the forced cells as the released guide's own fill.sh prints them over the translation 8235dc255f8ddfe1… (all of the seat's roots in one cut). By AI agents, Wed Nov 11 2026. No macro, syntax, notation, axiom, sorry.
-/
import Derived.Test.YtfipjmoaibdanaaChecked
import GoSem.Claim
import GoSem.ClaimJoined
import GoSem.ClaimMapViews
import Derived.JoinedTies
import Derived.KernelRfl
namespace Go.Proofs.Ytfipjmoaibdanaa
/- THE CELL 'sum', in the pinned program and in every row, IS THE sha256 OF THE DUMP (.gsa) THAT YtfipjmoaibdanaaProg.lean LOADS. Nothing in Lean hashes anything: it is a label: what it is worth is what the hold of that sum in a sandbox is worth. -/
noncomputable def Try.pinned : Pinned := { name := "ytfipjmoaibdanaa", sum := "8235dc255f8ddfe173922dcffdd1b96eb93e17e228e0aefd6ef98be95206eef4", checked := Try.checked }
namespace Rows
def none {H : Type} : Left H := { results := [], args := [] }

/-- 'laws.FnExactPastAhead': WHATEVER THE INPUT: true; the input reads as it did. -/
def fnExactPastAheadSpec : ChangeSpec := { name := "fnExactPastAhead", fn := fun _ => fun
  | [d1, d2, d3, d4] => { results := [.lit (.bool true)], args := [d1, d2, d3, d4] }
  | _ => none }
def fnExactPastAheadRow : OpenClaim := { program := "ytfipjmoaibdanaa", sum := "8235dc255f8ddfe173922dcffdd1b96eb93e17e228e0aefd6ef98be95206eef4", func := "loop.example/g01375/laws.FnExactPastAhead", spec := "fnExactPastAhead", unfollowed := true, recurses := true, apart := false }
def FnExactPastAheadSaid : Prop := fnExactPastAheadRow.holds Try.pinned (OpenSpec.ofChange fnExactPastAheadSpec)

/-- ITS FALSE NEIGHBOUR: 'it returns false'. Refute it at one input. -/
def fnExactPastAheadWrong : ChangeSpec := { name := "fnExactPastAhead", fn := fun _ => fun
  | [d1, d2, d3, d4] => { results := [.lit (.bool false)], args := [d1, d2, d3, d4] }
  | _ => none }
def FnExactPastAheadWrongFalsely : Prop := fnExactPastAheadRow.holds Try.pinned (OpenSpec.ofChange fnExactPastAheadWrong)

/-- 'laws.FnExactValidRegimes': WHATEVER THE INPUT: true; the input reads as it did. -/
def fnExactValidRegimesSpec : ChangeSpec := { name := "fnExactValidRegimes", fn := fun _ => fun
  | [d] => { results := [.lit (.bool true)], args := [d] }
  | _ => none }
def fnExactValidRegimesRow : OpenClaim := { program := "ytfipjmoaibdanaa", sum := "8235dc255f8ddfe173922dcffdd1b96eb93e17e228e0aefd6ef98be95206eef4", func := "loop.example/g01375/laws.FnExactValidRegimes", spec := "fnExactValidRegimes", unfollowed := true, recurses := true, apart := false }
def FnExactValidRegimesSaid : Prop := fnExactValidRegimesRow.holds Try.pinned (OpenSpec.ofChange fnExactValidRegimesSpec)

/-- ITS FALSE NEIGHBOUR: 'it returns false'. Refute it at one input. -/
def fnExactValidRegimesWrong : ChangeSpec := { name := "fnExactValidRegimes", fn := fun _ => fun
  | [d] => { results := [.lit (.bool false)], args := [d] }
  | _ => none }
def FnExactValidRegimesWrongFalsely : Prop := fnExactValidRegimesRow.holds Try.pinned (OpenSpec.ofChange fnExactValidRegimesWrong)

/-- 'laws.FnExactBlendOf': WHATEVER THE INPUT: true; the input reads as it did. -/
def fnExactBlendOfSpec : ChangeSpec := { name := "fnExactBlendOf", fn := fun _ => fun
  | [d1, d2] => { results := [.lit (.bool true)], args := [d1, d2] }
  | _ => none }
def fnExactBlendOfRow : OpenClaim := { program := "ytfipjmoaibdanaa", sum := "8235dc255f8ddfe173922dcffdd1b96eb93e17e228e0aefd6ef98be95206eef4", func := "loop.example/g01375/laws.FnExactBlendOf", spec := "fnExactBlendOf", unfollowed := true, recurses := true, apart := false }
def FnExactBlendOfSaid : Prop := fnExactBlendOfRow.holds Try.pinned (OpenSpec.ofChange fnExactBlendOfSpec)

/-- ITS FALSE NEIGHBOUR: 'it returns false'. Refute it at one input. -/
def fnExactBlendOfWrong : ChangeSpec := { name := "fnExactBlendOf", fn := fun _ => fun
  | [d1, d2] => { results := [.lit (.bool false)], args := [d1, d2] }
  | _ => none }
def FnExactBlendOfWrongFalsely : Prop := fnExactBlendOfRow.holds Try.pinned (OpenSpec.ofChange fnExactBlendOfWrong)

/-- 'laws.FnExactLearnWeights': WHATEVER THE INPUT: true; the input reads as it did. -/
def fnExactLearnWeightsSpec : ChangeSpec := { name := "fnExactLearnWeights", fn := fun _ => fun
  | [d1, d2, d3] => { results := [.lit (.bool true)], args := [d1, d2, d3] }
  | _ => none }
def fnExactLearnWeightsRow : OpenClaim := { program := "ytfipjmoaibdanaa", sum := "8235dc255f8ddfe173922dcffdd1b96eb93e17e228e0aefd6ef98be95206eef4", func := "loop.example/g01375/laws.FnExactLearnWeights", spec := "fnExactLearnWeights", inPlace := ["math.Float64frombits"], unfollowed := true, recurses := true, apart := false }
def FnExactLearnWeightsSaid : Prop := fnExactLearnWeightsRow.holds Try.pinned (OpenSpec.ofChange fnExactLearnWeightsSpec)

/-- ITS FALSE NEIGHBOUR: 'it returns false'. Refute it at one input. -/
def fnExactLearnWeightsWrong : ChangeSpec := { name := "fnExactLearnWeights", fn := fun _ => fun
  | [d1, d2, d3] => { results := [.lit (.bool false)], args := [d1, d2, d3] }
  | _ => none }
def FnExactLearnWeightsWrongFalsely : Prop := fnExactLearnWeightsRow.holds Try.pinned (OpenSpec.ofChange fnExactLearnWeightsWrong)

/-- 'laws.FnExactOwnPast': WHATEVER THE INPUT: true; the input reads as it did. -/
def fnExactOwnPastSpec : ChangeSpec := { name := "fnExactOwnPast", fn := fun _ => fun
  | [d1, d2] => { results := [.lit (.bool true)], args := [d1, d2] }
  | _ => none }
def fnExactOwnPastRow : OpenClaim := { program := "ytfipjmoaibdanaa", sum := "8235dc255f8ddfe173922dcffdd1b96eb93e17e228e0aefd6ef98be95206eef4", func := "loop.example/g01375/laws.FnExactOwnPast", spec := "fnExactOwnPast", unfollowed := true, recurses := true, apart := false }
def FnExactOwnPastSaid : Prop := fnExactOwnPastRow.holds Try.pinned (OpenSpec.ofChange fnExactOwnPastSpec)

/-- ITS FALSE NEIGHBOUR: 'it returns false'. Refute it at one input. -/
def fnExactOwnPastWrong : ChangeSpec := { name := "fnExactOwnPast", fn := fun _ => fun
  | [d1, d2] => { results := [.lit (.bool false)], args := [d1, d2] }
  | _ => none }
def FnExactOwnPastWrongFalsely : Prop := fnExactOwnPastRow.holds Try.pinned (OpenSpec.ofChange fnExactOwnPastWrong)

/-- 'laws.FnExactBestShares': WHATEVER THE INPUT: true; the input reads as it did. -/
def fnExactBestSharesSpec : ChangeSpec := { name := "fnExactBestShares", fn := fun _ => fun
  | [d1, d2, d3] => { results := [.lit (.bool true)], args := [d1, d2, d3] }
  | _ => none }
def fnExactBestSharesRow : OpenClaim := { program := "ytfipjmoaibdanaa", sum := "8235dc255f8ddfe173922dcffdd1b96eb93e17e228e0aefd6ef98be95206eef4", func := "loop.example/g01375/laws.FnExactBestShares", spec := "fnExactBestShares", unfollowed := true, recurses := true, apart := false }
def FnExactBestSharesSaid : Prop := fnExactBestSharesRow.holds Try.pinned (OpenSpec.ofChange fnExactBestSharesSpec)

/-- ITS FALSE NEIGHBOUR: 'it returns false'. Refute it at one input. -/
def fnExactBestSharesWrong : ChangeSpec := { name := "fnExactBestShares", fn := fun _ => fun
  | [d1, d2, d3] => { results := [.lit (.bool false)], args := [d1, d2, d3] }
  | _ => none }
def FnExactBestSharesWrongFalsely : Prop := fnExactBestSharesRow.holds Try.pinned (OpenSpec.ofChange fnExactBestSharesWrong)

/-- 'laws.FnExactMiddleBlend': WHATEVER THE INPUT: true; the input reads as it did. -/
def fnExactMiddleBlendSpec : ChangeSpec := { name := "fnExactMiddleBlend", fn := fun _ => fun
  | [d] => { results := [.lit (.bool true)], args := [d] }
  | _ => none }
def fnExactMiddleBlendRow : OpenClaim := { program := "ytfipjmoaibdanaa", sum := "8235dc255f8ddfe173922dcffdd1b96eb93e17e228e0aefd6ef98be95206eef4", func := "loop.example/g01375/laws.FnExactMiddleBlend", spec := "fnExactMiddleBlend", unfollowed := true, recurses := true, apart := false }
def FnExactMiddleBlendSaid : Prop := fnExactMiddleBlendRow.holds Try.pinned (OpenSpec.ofChange fnExactMiddleBlendSpec)

/-- ITS FALSE NEIGHBOUR: 'it returns false'. Refute it at one input. -/
def fnExactMiddleBlendWrong : ChangeSpec := { name := "fnExactMiddleBlend", fn := fun _ => fun
  | [d] => { results := [.lit (.bool false)], args := [d] }
  | _ => none }
def FnExactMiddleBlendWrongFalsely : Prop := fnExactMiddleBlendRow.holds Try.pinned (OpenSpec.ofChange fnExactMiddleBlendWrong)

/-- 'laws.FnExactBestOrder': WHATEVER THE INPUT: true; the input reads as it did. -/
def fnExactBestOrderSpec : ChangeSpec := { name := "fnExactBestOrder", fn := fun _ => fun
  | [d1, d2, d3] => { results := [.lit (.bool true)], args := [d1, d2, d3] }
  | _ => none }
def fnExactBestOrderRow : OpenClaim := { program := "ytfipjmoaibdanaa", sum := "8235dc255f8ddfe173922dcffdd1b96eb93e17e228e0aefd6ef98be95206eef4", func := "loop.example/g01375/laws.FnExactBestOrder", spec := "fnExactBestOrder", inPlace := ["math.Float64frombits", "math.Float64bits"], unfollowed := true, recurses := true, apart := false }
def FnExactBestOrderSaid : Prop := fnExactBestOrderRow.holds Try.pinned (OpenSpec.ofChange fnExactBestOrderSpec)

/-- ITS FALSE NEIGHBOUR: 'it returns false'. Refute it at one input. -/
def fnExactBestOrderWrong : ChangeSpec := { name := "fnExactBestOrder", fn := fun _ => fun
  | [d1, d2, d3] => { results := [.lit (.bool false)], args := [d1, d2, d3] }
  | _ => none }
def FnExactBestOrderWrongFalsely : Prop := fnExactBestOrderRow.holds Try.pinned (OpenSpec.ofChange fnExactBestOrderWrong)

/-- 'laws.FnRegimesSharedOfAll': WHATEVER THE INPUT: true; the input reads as it did. -/
def fnRegimesSharedOfAllSpec : ChangeSpec := { name := "fnRegimesSharedOfAll", fn := fun _ => fun
  | [d1, d2, d3, d4] => { results := [.lit (.bool true)], args := [d1, d2, d3, d4] }
  | _ => none }
def fnRegimesSharedOfAllRow : OpenClaim := { program := "ytfipjmoaibdanaa", sum := "8235dc255f8ddfe173922dcffdd1b96eb93e17e228e0aefd6ef98be95206eef4", func := "loop.example/g01375/laws.FnRegimesSharedOfAll", spec := "fnRegimesSharedOfAll", inPlace := ["math.Float64frombits", "math.sqrt", "math.Float64bits"], unfollowed := true, recurses := true, apart := false }
def FnRegimesSharedOfAllSaid : Prop := fnRegimesSharedOfAllRow.holds Try.pinned (OpenSpec.ofChange fnRegimesSharedOfAllSpec)

/-- ITS FALSE NEIGHBOUR: 'it returns false'. Refute it at one input. -/
def fnRegimesSharedOfAllWrong : ChangeSpec := { name := "fnRegimesSharedOfAll", fn := fun _ => fun
  | [d1, d2, d3, d4] => { results := [.lit (.bool false)], args := [d1, d2, d3, d4] }
  | _ => none }
def FnRegimesSharedOfAllWrongFalsely : Prop := fnRegimesSharedOfAllRow.holds Try.pinned (OpenSpec.ofChange fnRegimesSharedOfAllWrong)

/-- 'laws.FnExactOwnRows': WHATEVER THE INPUT: true; the input reads as it did. -/
def fnExactOwnRowsSpec : ChangeSpec := { name := "fnExactOwnRows", fn := fun _ => fun
  | [d1, d2] => { results := [.lit (.bool true)], args := [d1, d2] }
  | _ => none }
def fnExactOwnRowsRow : OpenClaim := { program := "ytfipjmoaibdanaa", sum := "8235dc255f8ddfe173922dcffdd1b96eb93e17e228e0aefd6ef98be95206eef4", func := "loop.example/g01375/laws.FnExactOwnRows", spec := "fnExactOwnRows", unfollowed := true, recurses := true, apart := false }
def FnExactOwnRowsSaid : Prop := fnExactOwnRowsRow.holds Try.pinned (OpenSpec.ofChange fnExactOwnRowsSpec)

/-- ITS FALSE NEIGHBOUR: 'it returns false'. Refute it at one input. -/
def fnExactOwnRowsWrong : ChangeSpec := { name := "fnExactOwnRows", fn := fun _ => fun
  | [d1, d2] => { results := [.lit (.bool false)], args := [d1, d2] }
  | _ => none }
def FnExactOwnRowsWrongFalsely : Prop := fnExactOwnRowsRow.holds Try.pinned (OpenSpec.ofChange fnExactOwnRowsWrong)

/-- 'laws.FnExactRegimeShares': WHATEVER THE INPUT: true; the input reads as it did. -/
def fnExactRegimeSharesSpec : ChangeSpec := { name := "fnExactRegimeShares", fn := fun _ => fun
  | [d1, d2] => { results := [.lit (.bool true)], args := [d1, d2] }
  | _ => none }
def fnExactRegimeSharesRow : OpenClaim := { program := "ytfipjmoaibdanaa", sum := "8235dc255f8ddfe173922dcffdd1b96eb93e17e228e0aefd6ef98be95206eef4", func := "loop.example/g01375/laws.FnExactRegimeShares", spec := "fnExactRegimeShares", inPlace := ["math.Float64frombits", "math.sqrt", "math.Float64bits"], unfollowed := true, recurses := true, apart := false }
def FnExactRegimeSharesSaid : Prop := fnExactRegimeSharesRow.holds Try.pinned (OpenSpec.ofChange fnExactRegimeSharesSpec)

/-- ITS FALSE NEIGHBOUR: 'it returns false'. Refute it at one input. -/
def fnExactRegimeSharesWrong : ChangeSpec := { name := "fnExactRegimeShares", fn := fun _ => fun
  | [d1, d2] => { results := [.lit (.bool false)], args := [d1, d2] }
  | _ => none }
def FnExactRegimeSharesWrongFalsely : Prop := fnExactRegimeSharesRow.holds Try.pinned (OpenSpec.ofChange fnExactRegimeSharesWrong)

/-- 'laws.FnExactRegimesShared': WHATEVER THE INPUT: true; the input reads as it did. -/
def fnExactRegimesSharedSpec : ChangeSpec := { name := "fnExactRegimesShared", fn := fun _ => fun
  | [d1, d2, d3] => { results := [.lit (.bool true)], args := [d1, d2, d3] }
  | _ => none }
def fnExactRegimesSharedRow : OpenClaim := { program := "ytfipjmoaibdanaa", sum := "8235dc255f8ddfe173922dcffdd1b96eb93e17e228e0aefd6ef98be95206eef4", func := "loop.example/g01375/laws.FnExactRegimesShared", spec := "fnExactRegimesShared", inPlace := ["math.Float64frombits", "math.sqrt", "math.Float64bits"], unfollowed := true, recurses := true, apart := false }
def FnExactRegimesSharedSaid : Prop := fnExactRegimesSharedRow.holds Try.pinned (OpenSpec.ofChange fnExactRegimesSharedSpec)

/-- ITS FALSE NEIGHBOUR: 'it returns false'. Refute it at one input. -/
def fnExactRegimesSharedWrong : ChangeSpec := { name := "fnExactRegimesShared", fn := fun _ => fun
  | [d1, d2, d3] => { results := [.lit (.bool false)], args := [d1, d2, d3] }
  | _ => none }
def FnExactRegimesSharedWrongFalsely : Prop := fnExactRegimesSharedRow.holds Try.pinned (OpenSpec.ofChange fnExactRegimesSharedWrong)

/- THE SECOND FORM. 'bulk': how many values and letters a reading holds, each counted each time it is reached (what is shared counts as often as it is met; a slice's spare places count too). A statement '..UptoSaid' is the law's where the arguments, and the package variables that the reading takes, are together of bulk at most 1048576: NARROWER than '..Said'. Prove '..Said' where nothing that the law and all that it calls make is longer than what came in: it says more and counts as full. Else prove '..UptoSaid'. A law counts once. -/
mutual
def uptoBulk {H : Type} : DataW H → Nat
  | .lit (.string bytes) => bytes.length + 1
  | .lit _ => 1
  | .nil => 1
  | .ptr d => uptoBulk d + 1
  | .slice elems spare => uptoBulkAll elems + uptoBulkAll spare + 1
  | .agg parts => uptoBulkAll parts + 1
  | .iface _ d => uptoBulk d + 1
  | .map entries => uptoBulkEntries entries + 1
  | .held _ => 1
def uptoBulkAll {H : Type} : List (DataW H) → Nat
  | [] => 0
  | d :: r => uptoBulk d + uptoBulkAll r
def uptoBulkEntries {H : Type} : List (Lit × DataW H) → Nat
  | [] => 0
  | x :: r => uptoBulkEntry x + uptoBulkEntries r
def uptoBulkEntry {H : Type} : Lit × DataW H → Nat
  | (.string bytes, d) => bytes.length + uptoBulk d + 1
  | (_, d) => uptoBulk d + 1
 end
def uptoSmall : (H : Type) → List (DataW H) → Bool := fun _ ds => decide (uptoBulkAll ds ≤ 1048576)
def OpenSpec.upto (s : _root_.Go.ChangeSpec) : _root_.Go.OpenSpec := { _root_.Go.OpenSpec.ofChange s with cond := some uptoSmall }

/-- 'laws.FnExactPastAhead', WHERE WHAT IT READS IS OF BULK AT MOST 1048576: true; the input reads as it did. -/
def fnExactPastAheadUptoRow : OpenClaim := { program := "ytfipjmoaibdanaa", sum := "8235dc255f8ddfe173922dcffdd1b96eb93e17e228e0aefd6ef98be95206eef4", func := "loop.example/g01375/laws.FnExactPastAhead", spec := "fnExactPastAhead", unfollowed := true, recurses := true, apart := false, narrowed := true }
def FnExactPastAheadUptoSaid : Prop := fnExactPastAheadUptoRow.holds Try.pinned (OpenSpec.upto fnExactPastAheadSpec)

/-- 'laws.FnExactValidRegimes', WHERE WHAT IT READS IS OF BULK AT MOST 1048576: true; the input reads as it did. -/
def fnExactValidRegimesUptoRow : OpenClaim := { program := "ytfipjmoaibdanaa", sum := "8235dc255f8ddfe173922dcffdd1b96eb93e17e228e0aefd6ef98be95206eef4", func := "loop.example/g01375/laws.FnExactValidRegimes", spec := "fnExactValidRegimes", unfollowed := true, recurses := true, apart := false, narrowed := true }
def FnExactValidRegimesUptoSaid : Prop := fnExactValidRegimesUptoRow.holds Try.pinned (OpenSpec.upto fnExactValidRegimesSpec)

/-- 'laws.FnExactBlendOf', WHERE WHAT IT READS IS OF BULK AT MOST 1048576: true; the input reads as it did. -/
def fnExactBlendOfUptoRow : OpenClaim := { program := "ytfipjmoaibdanaa", sum := "8235dc255f8ddfe173922dcffdd1b96eb93e17e228e0aefd6ef98be95206eef4", func := "loop.example/g01375/laws.FnExactBlendOf", spec := "fnExactBlendOf", unfollowed := true, recurses := true, apart := false, narrowed := true }
def FnExactBlendOfUptoSaid : Prop := fnExactBlendOfUptoRow.holds Try.pinned (OpenSpec.upto fnExactBlendOfSpec)

/-- 'laws.FnExactLearnWeights', WHERE WHAT IT READS IS OF BULK AT MOST 1048576: true; the input reads as it did. -/
def fnExactLearnWeightsUptoRow : OpenClaim := { program := "ytfipjmoaibdanaa", sum := "8235dc255f8ddfe173922dcffdd1b96eb93e17e228e0aefd6ef98be95206eef4", func := "loop.example/g01375/laws.FnExactLearnWeights", spec := "fnExactLearnWeights", inPlace := ["math.Float64frombits"], unfollowed := true, recurses := true, apart := false, narrowed := true }
def FnExactLearnWeightsUptoSaid : Prop := fnExactLearnWeightsUptoRow.holds Try.pinned (OpenSpec.upto fnExactLearnWeightsSpec)

/-- 'laws.FnExactOwnPast', WHERE WHAT IT READS IS OF BULK AT MOST 1048576: true; the input reads as it did. -/
def fnExactOwnPastUptoRow : OpenClaim := { program := "ytfipjmoaibdanaa", sum := "8235dc255f8ddfe173922dcffdd1b96eb93e17e228e0aefd6ef98be95206eef4", func := "loop.example/g01375/laws.FnExactOwnPast", spec := "fnExactOwnPast", unfollowed := true, recurses := true, apart := false, narrowed := true }
def FnExactOwnPastUptoSaid : Prop := fnExactOwnPastUptoRow.holds Try.pinned (OpenSpec.upto fnExactOwnPastSpec)

/-- 'laws.FnExactBestShares', WHERE WHAT IT READS IS OF BULK AT MOST 1048576: true; the input reads as it did. -/
def fnExactBestSharesUptoRow : OpenClaim := { program := "ytfipjmoaibdanaa", sum := "8235dc255f8ddfe173922dcffdd1b96eb93e17e228e0aefd6ef98be95206eef4", func := "loop.example/g01375/laws.FnExactBestShares", spec := "fnExactBestShares", unfollowed := true, recurses := true, apart := false, narrowed := true }
def FnExactBestSharesUptoSaid : Prop := fnExactBestSharesUptoRow.holds Try.pinned (OpenSpec.upto fnExactBestSharesSpec)

/-- 'laws.FnExactMiddleBlend', WHERE WHAT IT READS IS OF BULK AT MOST 1048576: true; the input reads as it did. -/
def fnExactMiddleBlendUptoRow : OpenClaim := { program := "ytfipjmoaibdanaa", sum := "8235dc255f8ddfe173922dcffdd1b96eb93e17e228e0aefd6ef98be95206eef4", func := "loop.example/g01375/laws.FnExactMiddleBlend", spec := "fnExactMiddleBlend", unfollowed := true, recurses := true, apart := false, narrowed := true }
def FnExactMiddleBlendUptoSaid : Prop := fnExactMiddleBlendUptoRow.holds Try.pinned (OpenSpec.upto fnExactMiddleBlendSpec)

/-- 'laws.FnExactBestOrder', WHERE WHAT IT READS IS OF BULK AT MOST 1048576: true; the input reads as it did. -/
def fnExactBestOrderUptoRow : OpenClaim := { program := "ytfipjmoaibdanaa", sum := "8235dc255f8ddfe173922dcffdd1b96eb93e17e228e0aefd6ef98be95206eef4", func := "loop.example/g01375/laws.FnExactBestOrder", spec := "fnExactBestOrder", inPlace := ["math.Float64frombits", "math.Float64bits"], unfollowed := true, recurses := true, apart := false, narrowed := true }
def FnExactBestOrderUptoSaid : Prop := fnExactBestOrderUptoRow.holds Try.pinned (OpenSpec.upto fnExactBestOrderSpec)

/-- 'laws.FnRegimesSharedOfAll', WHERE WHAT IT READS IS OF BULK AT MOST 1048576: true; the input reads as it did. -/
def fnRegimesSharedOfAllUptoRow : OpenClaim := { program := "ytfipjmoaibdanaa", sum := "8235dc255f8ddfe173922dcffdd1b96eb93e17e228e0aefd6ef98be95206eef4", func := "loop.example/g01375/laws.FnRegimesSharedOfAll", spec := "fnRegimesSharedOfAll", inPlace := ["math.Float64frombits", "math.sqrt", "math.Float64bits"], unfollowed := true, recurses := true, apart := false, narrowed := true }
def FnRegimesSharedOfAllUptoSaid : Prop := fnRegimesSharedOfAllUptoRow.holds Try.pinned (OpenSpec.upto fnRegimesSharedOfAllSpec)

/-- 'laws.FnExactOwnRows', WHERE WHAT IT READS IS OF BULK AT MOST 1048576: true; the input reads as it did. -/
def fnExactOwnRowsUptoRow : OpenClaim := { program := "ytfipjmoaibdanaa", sum := "8235dc255f8ddfe173922dcffdd1b96eb93e17e228e0aefd6ef98be95206eef4", func := "loop.example/g01375/laws.FnExactOwnRows", spec := "fnExactOwnRows", unfollowed := true, recurses := true, apart := false, narrowed := true }
def FnExactOwnRowsUptoSaid : Prop := fnExactOwnRowsUptoRow.holds Try.pinned (OpenSpec.upto fnExactOwnRowsSpec)

/-- 'laws.FnExactRegimeShares', WHERE WHAT IT READS IS OF BULK AT MOST 1048576: true; the input reads as it did. -/
def fnExactRegimeSharesUptoRow : OpenClaim := { program := "ytfipjmoaibdanaa", sum := "8235dc255f8ddfe173922dcffdd1b96eb93e17e228e0aefd6ef98be95206eef4", func := "loop.example/g01375/laws.FnExactRegimeShares", spec := "fnExactRegimeShares", inPlace := ["math.Float64frombits", "math.sqrt", "math.Float64bits"], unfollowed := true, recurses := true, apart := false, narrowed := true }
def FnExactRegimeSharesUptoSaid : Prop := fnExactRegimeSharesUptoRow.holds Try.pinned (OpenSpec.upto fnExactRegimeSharesSpec)

/-- 'laws.FnExactRegimesShared', WHERE WHAT IT READS IS OF BULK AT MOST 1048576: true; the input reads as it did. -/
def fnExactRegimesSharedUptoRow : OpenClaim := { program := "ytfipjmoaibdanaa", sum := "8235dc255f8ddfe173922dcffdd1b96eb93e17e228e0aefd6ef98be95206eef4", func := "loop.example/g01375/laws.FnExactRegimesShared", spec := "fnExactRegimesShared", inPlace := ["math.Float64frombits", "math.sqrt", "math.Float64bits"], unfollowed := true, recurses := true, apart := false, narrowed := true }
def FnExactRegimesSharedUptoSaid : Prop := fnExactRegimesSharedUptoRow.holds Try.pinned (OpenSpec.upto fnExactRegimesSharedSpec)

end Rows
end Go.Proofs.Ytfipjmoaibdanaa
