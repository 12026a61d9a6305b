/-
  The reference's members (walks).
-/
import Derived.Test.YtpcilobbohokcaaPkpB5
import Derived.Test.YtpcilobbohokcaaPkpW1
import Derived.Test.YtpcilobbohokcaaPkpW2
import Derived.Test.YtpcilobbohokcaaPkpB1
set_option linter.unusedSimpArgs false
set_option linter.unusedVariables false
namespace Go.Proofs.Ytpcilobbohokcaa
open Go Go.Wk Go.RowKit
attribute [local irreducible] go Hold
open Go.Lib
instance : Inhabited Mb := ⟨(0, [])⟩
end Go.Proofs.Ytpcilobbohokcaa
