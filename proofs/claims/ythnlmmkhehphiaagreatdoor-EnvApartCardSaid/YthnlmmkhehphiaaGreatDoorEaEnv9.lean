/-
  chirographref20.Decode (walk).
-/
import Derived.Test.YthnlmmkhehphiaaGreatDoorEaEnv7
import Derived.Test.YthnlmmkhehphiaaGreatDoorEaEnv6
set_option linter.unusedSimpArgs false
set_option linter.unusedVariables false
set_option maxRecDepth 20000
namespace Go.Proofs.YthnlmmkhehphiaaGreatDoor
open Go Go.Wk Go.RowKit
attribute [local irreducible] go Hold
open Go.Lib
theorem load7r {w : World} {p : Nat} {K : Value → World → Prop} {x0 x1 x2 x3 x4 x5 x6 : Value} (hh : w.heap[p]? = some (.cells #[x0, x1, x2, x3, x4, x5, x6] 42 (0, 0))) (hK : K (.agg #[x0, x1, x2, x3, x4, x5, x6]) w) : loadW TT 42 (.pointer (some ⟨p, 0, none⟩)) w K := by
  have c := fun o => cellOf (o := o) hh
  exact ⟨_, c 0, _, c 1, _, c 2, _, c 3, _, c 4, _, c 5, _, c 6, hK⟩
end Go.Proofs.YthnlmmkhehphiaaGreatDoor
