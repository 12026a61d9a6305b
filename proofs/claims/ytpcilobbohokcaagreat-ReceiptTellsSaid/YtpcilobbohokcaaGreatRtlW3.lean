/-
  wire.plain, wire.kinds (walks). wire: the small functions over a message (walks). wire: the forms' checks (walks). wire: the forms' readers of votes and decisions (walks). wire: the forms' writers (walks). wire.idle (walk). wire: the prepare's writer (walk). wire: the prepare's reader (walk).
-/
import Derived.Test.YtpcilobbohokcaaGreatRtlW2
set_option linter.unusedSimpArgs false
set_option linter.unusedVariables false
set_option maxRecDepth 20000
namespace Go.Proofs.YtpcilobbohokcaaGreat
open Go Go.Wk Go.RowKit
attribute [local irreducible] go Hold
open Go.Lib
end Go.Proofs.YtpcilobbohokcaaGreat
set_option linter.unusedSimpArgs false
set_option linter.unusedVariables false
set_option maxRecDepth 20000
namespace Go.Proofs.YtpcilobbohokcaaGreat
open Go Go.Wk Go.RowKit
attribute [local irreducible] go Hold
open Go.Lib
/-- A message. -/
structure Msg where
  k : Int
  tx : Tx
  aud : Int
  mbs : List Mb
  body : List UInt8
  yes : Bool
  tag : List UInt8
end Go.Proofs.YtpcilobbohokcaaGreat
set_option linter.unusedSimpArgs false
set_option linter.unusedVariables false
set_option maxRecDepth 20000
namespace Go.Proofs.YtpcilobbohokcaaGreat
open Go Go.Wk Go.RowKit
attribute [local irreducible] go Hold
open Go.Lib
/-- What is asked of a vote. -/
def k4B (m : Msg) : Bool := (m.yes == decide (m.tag ≠ [])) && (!m.yes || checkS m.tag == 0)
/-- What is asked of a prepare. -/
def k1B (m : Msg) : Bool := orgB m.aud && mbB m.tx.1 m.mbs && decide (checkS m.body = 0)
end Go.Proofs.YtpcilobbohokcaaGreat
set_option linter.unusedSimpArgs false
set_option linter.unusedVariables false
set_option maxRecDepth 20000
namespace Go.Proofs.YtpcilobbohokcaaGreat
open Go Go.Wk Go.RowKit
attribute [local irreducible] go Hold
open Go.Lib
end Go.Proofs.YtpcilobbohokcaaGreat
set_option linter.unusedSimpArgs false
set_option linter.unusedVariables false
set_option maxRecDepth 20000
namespace Go.Proofs.YtpcilobbohokcaaGreat
open Go Go.Wk Go.RowKit
attribute [local irreducible] go Hold
open Go.Lib
end Go.Proofs.YtpcilobbohokcaaGreat
set_option linter.unusedSimpArgs false
set_option linter.unusedVariables false
set_option maxRecDepth 20000
namespace Go.Proofs.YtpcilobbohokcaaGreat
open Go Go.Wk Go.RowKit
attribute [local irreducible] go Hold
open Go.Lib
def idleB (m : Msg) : Bool :=
  if ¬ m.k = 1 ∧ (¬ m.aud = 0 ∨ ¬ m.mbs.length = 0 ∨ ¬ m.body = []) then false
  else if (¬ (m.k = 2 ∨ m.k = 3) ∧ m.yes = true) ∨ (¬ m.k = 2 ∧ ¬ m.tag = []) then false
  else decide (¬ m.k = 6 ∨ m.tx = (0, 0, 0))
end Go.Proofs.YtpcilobbohokcaaGreat
set_option linter.unusedSimpArgs false
set_option linter.unusedVariables false
set_option maxRecDepth 20000
namespace Go.Proofs.YtpcilobbohokcaaGreat
open Go Go.Wk Go.RowKit
attribute [local irreducible] go Hold
open Go.Lib
end Go.Proofs.YtpcilobbohokcaaGreat
set_option linter.unusedSimpArgs false
set_option linter.unusedVariables false
set_option maxRecDepth 20000
namespace Go.Proofs.YtpcilobbohokcaaGreat
open Go Go.Wk Go.RowKit
attribute [local irreducible] go Hold
open Go.Lib
end Go.Proofs.YtpcilobbohokcaaGreat
