/-
  The kinds of steps; a step, by its kind (walks).
-/
import Derived.Test.YtgopgonkchlkfaaKtFrg1
set_option linter.unusedSimpArgs false
set_option linter.unusedVariables false
set_option maxRecDepth 20000
namespace Go.Proofs.Ytgopgonkchlkfaa
open Go Go.Wk Go.RowKit
attribute [local irreducible] go Hold
open Go.Lib
/-- What a step of a kind names: how many of the three, a number, a text, a row. -/
def namesS : Nat → Option (Nat × Bool × Bool × Bool)
  | 1 => some (0, true, false, false)
  | 2 => some (0, false, true, false)
  | 3 => some (1, true, false, false)
  | 4 => some (1, false, false, false)
  | 5 => some (2, false, false, false)
  | 6 => some (0, false, false, true)
  | 7 => some (1, false, false, false)
  | 8 => some (2, false, false, false)
  | 9 => some (3, false, false, false)
  | _ => none
def fnOf : Nat → Nat
  | 1 => 125
  | 2 => 126
  | 3 => 127
  | 4 => 128
  | 5 => 129
  | 6 => 130
  | 7 => 131
  | 8 => 132
  | 9 => 133
  | _ => 0
end Go.Proofs.Ytgopgonkchlkfaa
