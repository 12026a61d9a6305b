/-
  Steps, one behind the other (walk).
-/
import Derived.Test.YtgopgonkchlkfaaKtFrg3
set_option linter.unusedSimpArgs false
set_option linter.unusedVariables false
set_option maxRecDepth 20000
namespace Go.Proofs.Ytgopgonkchlkfaa
open Go Go.Wk Go.RowKit
attribute [local irreducible] go Hold
open Go.Lib
/-- A row of steps that comes in. -/
structure RdS (w : World) (sa : Value) (xs : List Stp) : Prop where
  rd : Rd w 7 sa xs.length (xs.flatMap stpC)
  el : ∀ x ∈ xs, StpIn w x
theorem RdS.mod {w w' : World} {sa : Value} {xs : List Stp} (h : RdS w sa xs) (hm : Mod [] w w') : RdS w' sa xs := ⟨h.rd.mod hm (by simp), fun x hx => (h.el x hx).mod hm (by simp)⟩
/-! what a step makes is a term -/
/-! the deferred call -/
end Go.Proofs.Ytgopgonkchlkfaa
