/-
  A step that is one.
-/
import Derived.Test.YtpcilobbohokcaaPkpParI
set_option linter.unusedSimpArgs false
set_option linter.unusedVariables false
namespace Go.Proofs.Ytpcilobbohokcaa
open Go Go.Wk Go.RowKit
attribute [local irreducible] go Hold
instance : Inhabited Sp := ⟨⟨0, false, [], 0⟩⟩
end Go.Proofs.Ytpcilobbohokcaa
