/-
  The reference's members (walks).
-/
import Derived.Test.YthnlmmkhehphiaaGreatDoorEaB5
import Derived.Test.YthnlmmkhehphiaaGreatDoorEaW1
import Derived.Test.YthnlmmkhehphiaaGreatDoorEaW2
import Derived.Test.YthnlmmkhehphiaaGreatDoorEaB1
set_option linter.unusedSimpArgs false
set_option linter.unusedVariables false
set_option maxRecDepth 20000
namespace Go.Proofs.YthnlmmkhehphiaaGreatDoor
open Go Go.Wk Go.RowKit
attribute [local irreducible] go Hold
open Go.Lib
instance : Inhabited Mb := ⟨(0, [])⟩
end Go.Proofs.YthnlmmkhehphiaaGreatDoor
