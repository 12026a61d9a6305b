/-
  The reference's Word and Bare (walks).
-/
import Derived.Test.YtpcilobbohokcaaPkpW6
import Derived.Test.YtpcilobbohokcaaPkpW4
import Derived.Test.YtpcilobbohokcaaPkpMpr
set_option linter.unusedSimpArgs false
set_option linter.unusedVariables false
namespace Go.Proofs.Ytpcilobbohokcaa
open Go Go.Wk Go.RowKit
attribute [local irreducible] go Hold
open Go.Lib
theorem three {w W : World} {A Z Y : Obj} (h : ((w.alloc A).alloc Z).alloc Y = W) : W.heap[w.heap.size]? = some A ∧ W.heap[w.heap.size + 1]? = some Z ∧ W.heap[w.heap.size + 1 + 1]? = some Y ∧ Mod [] w W := by
  subst h
  refine ⟨heapAlloc (o' := Y) (heapAlloc (o' := Z) (heapNew (w := w) (o := A))), ?_, ?_, (((Mod.refl [] w).alloc A).alloc Z).alloc Y⟩
  · have h1 := heapNew (w := w.alloc A) (o := Z)
    rw [sizeAlloc] at h1
    exact heapAlloc (o' := Y) h1
  · have h1 := heapNew (w := (w.alloc A).alloc Z) (o := Y)
    rw [sizeAlloc, sizeAlloc] at h1
    exact h1
end Go.Proofs.Ytpcilobbohokcaa
