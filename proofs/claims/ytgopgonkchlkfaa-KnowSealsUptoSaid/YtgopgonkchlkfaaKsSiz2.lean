/-
  term.Depth (walks).
-/
import Derived.Test.YtgopgonkchlkfaaKsSiz1
set_option linter.unusedSimpArgs false
set_option linter.unusedVariables false
set_option maxRecDepth 20000
namespace Go.Proofs.Ytgopgonkchlkfaa
open Go Go.Wk Go.RowKit
attribute [local irreducible] go Hold
open Go.Lib
theorem plOkD {S : List UInt8} {done r : List PL} {p : PL} (h : done ++ p :: r = placesS S) : plOk S.length p := placesS_ok (by rw [← h]; simp)
end Go.Proofs.Ytgopgonkchlkfaa
