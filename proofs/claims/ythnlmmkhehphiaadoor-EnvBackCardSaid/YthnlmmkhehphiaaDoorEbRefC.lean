/-
  The reference's members (walks).
-/
import Derived.Test.YthnlmmkhehphiaaDoorEbB5
import Derived.Test.YthnlmmkhehphiaaDoorEbW1
import Derived.Test.YthnlmmkhehphiaaDoorEbW2
import Derived.Test.YthnlmmkhehphiaaDoorEbB1
set_option linter.unusedSimpArgs false
set_option linter.unusedVariables false
set_option maxRecDepth 20000
namespace Go.Proofs.YthnlmmkhehphiaaDoor
open Go Go.Wk Go.RowKit
attribute [local irreducible] go Hold
open Go.Lib
instance : Inhabited Mb := ⟨(0, [])⟩
end Go.Proofs.YthnlmmkhehphiaaDoor
