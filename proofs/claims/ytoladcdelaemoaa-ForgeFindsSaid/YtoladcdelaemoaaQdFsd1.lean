/-
  What steps come to can be made of what was seen (plain).
-/
import Derived.Test.YtoladcdelaemoaaQdKnw1
import Derived.Test.YtoladcdelaemoaaQdFrg4
set_option linter.unusedSimpArgs false
set_option linter.unusedVariables false
set_option maxRecDepth 20000
namespace Go.Proofs.Ytoladcdelaemoaa
open Go Go.Wk Go.RowKit
attribute [local irreducible] go Hold
open Go.Lib
/-- Those that are terms. -/
def okL (l : List Tm) : List Tm := l.filter fun s => decide (checkS s = 0)
theorem okL_ok (l : List Tm) : ∀ s ∈ okL l, checkS s = 0 := by
  intro s hs
  unfold okL at hs
  rw [List.mem_filter] at hs
  simpa using hs.2
end Go.Proofs.Ytoladcdelaemoaa
