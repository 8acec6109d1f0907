import Derived.Test.YtffkjkiaageghaaZT21
set_option linter.unusedVariables false
set_option linter.unusedSimpArgs false
set_option maxRecDepth 20000
set_option maxHeartbeats 8000000
namespace Go.Proofs.Ytffkjkiaageghaa
open Go.Aw
attribute [local irreducible] QRun LexD AWp TCall TMut

theorem pastL_get {a terms : List Nat} {m i : Nat} (h1 : terms.length ≤ i) (h2 : i < a.length) : (pastL a terms m).getD (i - terms.length) 0 = fop .sub .f32 (a.getD i 0) (toldF (a.take i) terms m) := by
  unfold pastL
  rw [getD_mapR _ (by omega)]
  rw [show terms.length + (i - terms.length) = i by omega]
end Go.Proofs.Ytffkjkiaageghaa
