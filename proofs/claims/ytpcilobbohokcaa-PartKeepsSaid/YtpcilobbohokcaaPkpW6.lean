/-
  chirographref12.Same (walk). chirographlaw12: long, own (walks). chirographlaw12.alive (walk).
-/
import Derived.Test.YtpcilobbohokcaaPkpW4
import Derived.Test.YtpcilobbohokcaaPkpW2
import Derived.Test.YtpcilobbohokcaaPkpMpr
set_option linter.unusedSimpArgs false
set_option linter.unusedVariables false
namespace Go.Proofs.Ytpcilobbohokcaa
open Go Go.Wk Go.RowKit
attribute [local irreducible] go Hold
open Go.Lib
/-- The same message. -/
def SameP (m n : Msg) : Prop := m.k = n.k ∧ m.tx = n.tx ∧ m.aud = n.aud ∧ m.mbs = n.mbs ∧ m.body = n.body ∧ m.yes = n.yes ∧ m.tag = n.tag
instance (m n : Msg) : Decidable (SameP m n) := inferInstanceAs (Decidable (_ ∧ _))
end Go.Proofs.Ytpcilobbohokcaa
set_option linter.unusedSimpArgs false
set_option linter.unusedVariables false
namespace Go.Proofs.Ytpcilobbohokcaa
open Go Go.Wk Go.RowKit
attribute [local irreducible] go Hold
open Go.Lib
end Go.Proofs.Ytpcilobbohokcaa
set_option linter.unusedSimpArgs false
set_option linter.unusedVariables false
namespace Go.Proofs.Ytpcilobbohokcaa
open Go Go.Wk Go.RowKit
attribute [local irreducible] go Hold
open Go.Lib
end Go.Proofs.Ytpcilobbohokcaa
