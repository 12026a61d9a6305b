/-
  A range over a function: the statement, and a round of it.
-/
import Derived.Test.YtoladcdelaemoaaQdWk7
set_option linter.unusedSimpArgs false
set_option linter.unusedVariables false
namespace Go.Wk
open Go
variable {P : Program} {T : Tab}
/-- A function's name for the walks of a round. -/
def fnR : Func := { (default : Func) with results := #[] }
abbrev RF : Ending → World → Prop := fun _ _ => False
end Go.Wk
