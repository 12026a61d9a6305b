/-
  ballot: Digest, Tag, Fits, of a suite of terms (walks).
-/
import Derived.Test.YthnlmmkhehphiaaDoorEbSui2
import Derived.Test.YthnlmmkhehphiaaDoorEbPar3
import Derived.Test.YthnlmmkhehphiaaDoorEbRefC
import Derived.Test.YthnlmmkhehphiaaDoorEbKey1
set_option linter.unusedSimpArgs false
set_option linter.unusedVariables false
set_option maxRecDepth 20000
namespace Go.Proofs.YthnlmmkhehphiaaDoor
open Go Go.Wk Go.RowKit
attribute [local irreducible] go Hold
open Go.Lib
theorem atomS_len (s : List UInt8) : (atomS s).1.length ≤ 1000000 := by
  unfold atomS
  repeat' split
  · simp
  · rename_i h _
    have := numL_len (v := s.length) (by omega)
    simp
    omega
  · simp
end Go.Proofs.YthnlmmkhehphiaaDoor
