/-
  A step (walk).
-/
import Derived.Test.YtgopgonkchlkfaaKtFrg2
set_option linter.unusedSimpArgs false
set_option linter.unusedVariables false
set_option maxRecDepth 20000
namespace Go.Proofs.Ytgopgonkchlkfaa
open Go Go.Wk Go.RowKit
attribute [local irreducible] go Hold
open Go.Lib
/-- What stands before the step is looked at. -/
structure KX (w0 w : World) (bx kb rp : Nat) (sv lv : Value) (seen l : List (List UInt8)) (x : Stp) (s : Nat) (bn bt bl is : Bool) (fv : Value) : Prop where
  fx : FX w bx rp sv lv seen l x
  kb : w.heap[kb]? = some (.cells #[.int .i64 s, .bool bn, .bool bt, .bool bl, fv] 153 (0, 0))
  nm : namesS x.d = (if is = true then some (s, bn, bt, bl) else none)
  fn : is = true → fv = .func (.func (fnOf x.d)) #[.pointer (some ⟨rp, 0, none⟩)] #[]
  md : Mod [] w0 w
theorem KX.mod {w0 w w' : World} {bx kb rp : Nat} {sv lv : Value} {seen l : List (List UInt8)} {x : Stp} {s : Nat} {bn bt bl is : Bool} {fv : Value} (h : KX w0 w bx kb rp sv lv seen l x s bn bt bl is fv) (hm : Mod [] w w') : KX w0 w' bx kb rp sv lv seen l x s bn bt bl is fv :=
  ⟨h.fx.mod hm, hm.get h.kb (by simp), h.nm, h.fn, h.md.trans hm (by simp)⟩
end Go.Proofs.Ytgopgonkchlkfaa
