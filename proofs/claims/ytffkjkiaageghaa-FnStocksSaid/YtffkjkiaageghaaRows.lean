/-
  No cell of these rows narrows 'for every input' (looked for: loops, veiled, ifaces, maps, wideKeys, modest, calm, conditions, laid).
  DERIVED. THE GIVEN ROWS OF THIS SEAT. 4 by the template 'for every input the law returns true; each argument reads behind the call as it read before'; 0 by the template 'total and deterministic' (their statements: YtffkjkiaageghaaTotals.lean).
  GIVEN WITH THE SEED: the statements are not yours to turn. If you find one false, say at which input.
  Laid BY PROGRAM, IN A SANDBOX (cutbox-rows.mjs): the forced cells as the released guide's own fill.sh prints them over the translation 578fe72c9c6ef894… (all of the seat's roots in one cut). By AI agents, Wed Nov 11 2026. No macro, syntax, notation, axiom, sorry.
-/
import Derived.Test.YtffkjkiaageghaaChecked
import GoSem.Claim
import GoSem.ClaimJoined
import GoSem.ClaimMapViews
import Derived.JoinedTies
import Derived.KernelRfl
namespace Go.Proofs.Ytffkjkiaageghaa
/- THE CELL 'sum', in the pinned program and in every row, IS THE sha256 OF THE DUMP (.gsa) THAT YtffkjkiaageghaaProg.lean LOADS. Nothing in Lean hashes anything: it is a label: what it is worth is what the hold of that sum in a sandbox is worth. -/
noncomputable def Try.pinned : Pinned := { name := "ytffkjkiaageghaa", sum := "578fe72c9c6ef894c6212921332154f788cf3038d28d242420cbb00594060d12", checked := Try.checked }
namespace Rows
def none {H : Type} : Left H := { results := [], args := [] }

/-- 'laws.FnStocks': WHATEVER THE INPUT: true; the input reads as it did. -/
def fnStocksSpec : ChangeSpec := { name := "fnStocks", fn := fun _ => fun
  | [d1, d2] => { results := [.lit (.bool true)], args := [d1, d2] }
  | _ => none }
def fnStocksRow : OpenClaim := { program := "ytffkjkiaageghaa", sum := "578fe72c9c6ef894c6212921332154f788cf3038d28d242420cbb00594060d12", func := "loop.example/g01375/laws.FnStocks", spec := "fnStocks", inPlace := ["math.sqrt", "math.archFloor", "math.Float64bits", "math.Float64frombits", "math.archTrunc"], unfollowed := true, recurses := true, apart := false }
def FnStocksSaid : Prop := fnStocksRow.holds Try.pinned (OpenSpec.ofChange fnStocksSpec)

/-- ITS FALSE NEIGHBOUR: 'it returns false'. Refute it at one input. -/
def fnStocksWrong : ChangeSpec := { name := "fnStocks", fn := fun _ => fun
  | [d1, d2] => { results := [.lit (.bool false)], args := [d1, d2] }
  | _ => none }
def FnStocksWrongFalsely : Prop := fnStocksRow.holds Try.pinned (OpenSpec.ofChange fnStocksWrong)

/-- 'laws.FnReconciled': WHATEVER THE INPUT: true; the input reads as it did. -/
def fnReconciledSpec : ChangeSpec := { name := "fnReconciled", fn := fun _ => fun
  | [d1, d2] => { results := [.lit (.bool true)], args := [d1, d2] }
  | _ => none }
def fnReconciledRow : OpenClaim := { program := "ytffkjkiaageghaa", sum := "578fe72c9c6ef894c6212921332154f788cf3038d28d242420cbb00594060d12", func := "loop.example/g01375/laws.FnReconciled", spec := "fnReconciled", unfollowed := true, recurses := true, apart := false }
def FnReconciledSaid : Prop := fnReconciledRow.holds Try.pinned (OpenSpec.ofChange fnReconciledSpec)

/-- ITS FALSE NEIGHBOUR: 'it returns false'. Refute it at one input. -/
def fnReconciledWrong : ChangeSpec := { name := "fnReconciled", fn := fun _ => fun
  | [d1, d2] => { results := [.lit (.bool false)], args := [d1, d2] }
  | _ => none }
def FnReconciledWrongFalsely : Prop := fnReconciledRow.holds Try.pinned (OpenSpec.ofChange fnReconciledWrong)

/-- 'laws.FnRolled': WHATEVER THE INPUT: true; the input reads as it did. -/
def fnRolledSpec : ChangeSpec := { name := "fnRolled", fn := fun _ => fun
  | [d1, d2] => { results := [.lit (.bool true)], args := [d1, d2] }
  | _ => none }
def fnRolledRow : OpenClaim := { program := "ytffkjkiaageghaa", sum := "578fe72c9c6ef894c6212921332154f788cf3038d28d242420cbb00594060d12", func := "loop.example/g01375/laws.FnRolled", spec := "fnRolled", unfollowed := true, recurses := true, apart := false }
def FnRolledSaid : Prop := fnRolledRow.holds Try.pinned (OpenSpec.ofChange fnRolledSpec)

/-- ITS FALSE NEIGHBOUR: 'it returns false'. Refute it at one input. -/
def fnRolledWrong : ChangeSpec := { name := "fnRolled", fn := fun _ => fun
  | [d1, d2] => { results := [.lit (.bool false)], args := [d1, d2] }
  | _ => none }
def FnRolledWrongFalsely : Prop := fnRolledRow.holds Try.pinned (OpenSpec.ofChange fnRolledWrong)

/-- 'laws.FnExactMovingParts': WHATEVER THE INPUT: true; the input reads as it did. -/
def fnExactMovingPartsSpec : ChangeSpec := { name := "fnExactMovingParts", fn := fun _ => fun
  | [d1, d2, d3] => { results := [.lit (.bool true)], args := [d1, d2, d3] }
  | _ => none }
def fnExactMovingPartsRow : OpenClaim := { program := "ytffkjkiaageghaa", sum := "578fe72c9c6ef894c6212921332154f788cf3038d28d242420cbb00594060d12", func := "loop.example/g01375/laws.FnExactMovingParts", spec := "fnExactMovingParts", unfollowed := true, recurses := true, apart := false }
def FnExactMovingPartsSaid : Prop := fnExactMovingPartsRow.holds Try.pinned (OpenSpec.ofChange fnExactMovingPartsSpec)

/-- ITS FALSE NEIGHBOUR: 'it returns false'. Refute it at one input. -/
def fnExactMovingPartsWrong : ChangeSpec := { name := "fnExactMovingParts", fn := fun _ => fun
  | [d1, d2, d3] => { results := [.lit (.bool false)], args := [d1, d2, d3] }
  | _ => none }
def FnExactMovingPartsWrongFalsely : Prop := fnExactMovingPartsRow.holds Try.pinned (OpenSpec.ofChange fnExactMovingPartsWrong)

/- THE SECOND FORM. 'bulk': how many values and letters a reading holds, each counted each time it is reached (what is shared counts as often as it is met; a slice's spare places count too). A statement '..UptoSaid' is the law's where the arguments, and the package variables that the reading takes, are together of bulk at most 1048576: NARROWER than '..Said'. Prove '..Said' where nothing that the law and all that it calls make is longer than what came in: it says more and counts as full. Else prove '..UptoSaid'. A law counts once. -/
mutual
def uptoBulk {H : Type} : DataW H → Nat
  | .lit (.string bytes) => bytes.length + 1
  | .lit _ => 1
  | .nil => 1
  | .ptr d => uptoBulk d + 1
  | .slice elems spare => uptoBulkAll elems + uptoBulkAll spare + 1
  | .agg parts => uptoBulkAll parts + 1
  | .iface _ d => uptoBulk d + 1
  | .map entries => uptoBulkEntries entries + 1
  | .held _ => 1
def uptoBulkAll {H : Type} : List (DataW H) → Nat
  | [] => 0
  | d :: r => uptoBulk d + uptoBulkAll r
def uptoBulkEntries {H : Type} : List (Lit × DataW H) → Nat
  | [] => 0
  | x :: r => uptoBulkEntry x + uptoBulkEntries r
def uptoBulkEntry {H : Type} : Lit × DataW H → Nat
  | (.string bytes, d) => bytes.length + uptoBulk d + 1
  | (_, d) => uptoBulk d + 1
 end
def uptoSmall : (H : Type) → List (DataW H) → Bool := fun _ ds => decide (uptoBulkAll ds ≤ 1048576)
def OpenSpec.upto (s : _root_.Go.ChangeSpec) : _root_.Go.OpenSpec := { _root_.Go.OpenSpec.ofChange s with cond := some uptoSmall }

/-- 'laws.FnStocks', WHERE WHAT IT READS IS OF BULK AT MOST 1048576: true; the input reads as it did. -/
def fnStocksUptoRow : OpenClaim := { program := "ytffkjkiaageghaa", sum := "578fe72c9c6ef894c6212921332154f788cf3038d28d242420cbb00594060d12", func := "loop.example/g01375/laws.FnStocks", spec := "fnStocks", inPlace := ["math.sqrt", "math.archFloor", "math.Float64bits", "math.Float64frombits", "math.archTrunc"], unfollowed := true, recurses := true, apart := false, narrowed := true }
def FnStocksUptoSaid : Prop := fnStocksUptoRow.holds Try.pinned (OpenSpec.upto fnStocksSpec)

/-- 'laws.FnReconciled', WHERE WHAT IT READS IS OF BULK AT MOST 1048576: true; the input reads as it did. -/
def fnReconciledUptoRow : OpenClaim := { program := "ytffkjkiaageghaa", sum := "578fe72c9c6ef894c6212921332154f788cf3038d28d242420cbb00594060d12", func := "loop.example/g01375/laws.FnReconciled", spec := "fnReconciled", unfollowed := true, recurses := true, apart := false, narrowed := true }
def FnReconciledUptoSaid : Prop := fnReconciledUptoRow.holds Try.pinned (OpenSpec.upto fnReconciledSpec)

/-- 'laws.FnRolled', WHERE WHAT IT READS IS OF BULK AT MOST 1048576: true; the input reads as it did. -/
def fnRolledUptoRow : OpenClaim := { program := "ytffkjkiaageghaa", sum := "578fe72c9c6ef894c6212921332154f788cf3038d28d242420cbb00594060d12", func := "loop.example/g01375/laws.FnRolled", spec := "fnRolled", unfollowed := true, recurses := true, apart := false, narrowed := true }
def FnRolledUptoSaid : Prop := fnRolledUptoRow.holds Try.pinned (OpenSpec.upto fnRolledSpec)

/-- 'laws.FnExactMovingParts', WHERE WHAT IT READS IS OF BULK AT MOST 1048576: true; the input reads as it did. -/
def fnExactMovingPartsUptoRow : OpenClaim := { program := "ytffkjkiaageghaa", sum := "578fe72c9c6ef894c6212921332154f788cf3038d28d242420cbb00594060d12", func := "loop.example/g01375/laws.FnExactMovingParts", spec := "fnExactMovingParts", unfollowed := true, recurses := true, apart := false, narrowed := true }
def FnExactMovingPartsUptoSaid : Prop := fnExactMovingPartsUptoRow.holds Try.pinned (OpenSpec.upto fnExactMovingPartsSpec)

end Rows
end Go.Proofs.Ytffkjkiaageghaa
