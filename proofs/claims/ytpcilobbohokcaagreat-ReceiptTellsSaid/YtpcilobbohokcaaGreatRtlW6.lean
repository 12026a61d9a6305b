/-
  chirographref12.Same (walk). chirographlaw12: long, own (walks). chirographlaw12.alive (walk).
-/
import Derived.Test.YtpcilobbohokcaaGreatRtlW4
import Derived.Test.YtpcilobbohokcaaGreatRtlW2
import Derived.Test.YtpcilobbohokcaaGreatRtlMpr
set_option linter.unusedSimpArgs false
set_option linter.unusedVariables false
set_option maxRecDepth 20000
namespace Go.Proofs.YtpcilobbohokcaaGreat
open Go Go.Wk Go.RowKit
attribute [local irreducible] go Hold
open Go.Lib
/-- The same message. -/
def SameP (m n : Msg) : Prop := m.k = n.k ∧ m.tx = n.tx ∧ m.aud = n.aud ∧ m.mbs = n.mbs ∧ m.body = n.body ∧ m.yes = n.yes ∧ m.tag = n.tag
instance (m n : Msg) : Decidable (SameP m n) := inferInstanceAs (Decidable (_ ∧ _))
end Go.Proofs.YtpcilobbohokcaaGreat
set_option linter.unusedSimpArgs false
set_option linter.unusedVariables false
set_option maxRecDepth 20000
namespace Go.Proofs.YtpcilobbohokcaaGreat
open Go Go.Wk Go.RowKit
attribute [local irreducible] go Hold
open Go.Lib
end Go.Proofs.YtpcilobbohokcaaGreat
set_option linter.unusedSimpArgs false
set_option linter.unusedVariables false
set_option maxRecDepth 20000
namespace Go.Proofs.YtpcilobbohokcaaGreat
open Go Go.Wk Go.RowKit
attribute [local irreducible] go Hold
open Go.Lib
end Go.Proofs.YtpcilobbohokcaaGreat
