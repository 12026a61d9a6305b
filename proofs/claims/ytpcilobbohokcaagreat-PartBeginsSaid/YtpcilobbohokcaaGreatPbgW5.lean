/-
  wire.Encode (walk). wire.decode (walk). wire.decode (walk). wire.Decode (walk).
-/
import Derived.Test.YtpcilobbohokcaaGreatPbgW4
import Derived.Test.YtpcilobbohokcaaGreatPbgMpr
set_option linter.unusedSimpArgs false
set_option linter.unusedVariables false
set_option maxRecDepth 20000
namespace Go.Proofs.YtpcilobbohokcaaGreat
open Go Go.Wk Go.RowKit
attribute [local irreducible] go Hold
open Go.Lib
end Go.Proofs.YtpcilobbohokcaaGreat
set_option linter.unusedSimpArgs false
set_option linter.unusedVariables false
set_option maxRecDepth 20000
namespace Go.Proofs.YtpcilobbohokcaaGreat
open Go Go.Wk Go.RowKit
attribute [local irreducible] go Hold
open Go.Lib
theorem st9 {w : World} {p t : Nat} {a0 a1 a2 a3 a4 a5 a6 a7 a8 x0 x1 x2 x3 x4 x5 x6 x7 x8 : Value} (h : w.heap[p]? = some (.cells #[a0, a1, a2, a3, a4, a5, a6, a7, a8] t)) : (((((((((w.setCell ⟨p, 0, none⟩ x0).setCell ⟨p, 1, none⟩ x1).setCell ⟨p, 2, none⟩ x2).setCell ⟨p, 3, none⟩ x3).setCell ⟨p, 4, none⟩ x4).setCell ⟨p, 5, none⟩ x5).setCell ⟨p, 6, none⟩ x6).setCell ⟨p, 7, none⟩ x7).setCell ⟨p, 8, none⟩ x8).heap[p]? = some (.cells #[x0, x1, x2, x3, x4, x5, x6, x7, x8] t) := by
  have h0 : (w.setCell ⟨p, 0, none⟩ x0).heap[p]? = some (.cells #[x0, a1, a2, a3, a4, a5, a6, a7, a8] t) := by rw [heapSet h]; rfl
  revert h0
  generalize w.setCell ⟨p, 0, none⟩ x0 = w1
  intro h0
  have h1 : (w1.setCell ⟨p, 1, none⟩ x1).heap[p]? = some (.cells #[x0, x1, a2, a3, a4, a5, a6, a7, a8] t) := by rw [heapSet h0]; rfl
  revert h1
  generalize w1.setCell ⟨p, 1, none⟩ x1 = w2
  intro h1
  have h2 : (w2.setCell ⟨p, 2, none⟩ x2).heap[p]? = some (.cells #[x0, x1, x2, a3, a4, a5, a6, a7, a8] t) := by rw [heapSet h1]; rfl
  revert h2
  generalize w2.setCell ⟨p, 2, none⟩ x2 = w3
  intro h2
  have h3 : (w3.setCell ⟨p, 3, none⟩ x3).heap[p]? = some (.cells #[x0, x1, x2, x3, a4, a5, a6, a7, a8] t) := by rw [heapSet h2]; rfl
  revert h3
  generalize w3.setCell ⟨p, 3, none⟩ x3 = w4
  intro h3
  have h4 : (w4.setCell ⟨p, 4, none⟩ x4).heap[p]? = some (.cells #[x0, x1, x2, x3, x4, a5, a6, a7, a8] t) := by rw [heapSet h3]; rfl
  revert h4
  generalize w4.setCell ⟨p, 4, none⟩ x4 = w5
  intro h4
  have h5 : (w5.setCell ⟨p, 5, none⟩ x5).heap[p]? = some (.cells #[x0, x1, x2, x3, x4, x5, a6, a7, a8] t) := by rw [heapSet h4]; rfl
  revert h5
  generalize w5.setCell ⟨p, 5, none⟩ x5 = w6
  intro h5
  have h6 : (w6.setCell ⟨p, 6, none⟩ x6).heap[p]? = some (.cells #[x0, x1, x2, x3, x4, x5, x6, a7, a8] t) := by rw [heapSet h5]; rfl
  revert h6
  generalize w6.setCell ⟨p, 6, none⟩ x6 = w7
  intro h6
  have h7 : (w7.setCell ⟨p, 7, none⟩ x7).heap[p]? = some (.cells #[x0, x1, x2, x3, x4, x5, x6, x7, a8] t) := by rw [heapSet h6]; rfl
  revert h7
  generalize w7.setCell ⟨p, 7, none⟩ x7 = w8
  intro h7
  have h8 : (w8.setCell ⟨p, 8, none⟩ x8).heap[p]? = some (.cells #[x0, x1, x2, x3, x4, x5, x6, x7, x8] t) := by rw [heapSet h7]; rfl
  revert h8
  generalize w8.setCell ⟨p, 8, none⟩ x8 = w9
  intro h8
  exact h8
end Go.Proofs.YtpcilobbohokcaaGreat
set_option linter.unusedSimpArgs false
set_option linter.unusedVariables false
set_option maxRecDepth 20000
namespace Go.Proofs.YtpcilobbohokcaaGreat
open Go Go.Wk Go.RowKit
attribute [local irreducible] go Hold
open Go.Lib
end Go.Proofs.YtpcilobbohokcaaGreat
set_option linter.unusedSimpArgs false
set_option linter.unusedVariables false
set_option maxRecDepth 20000
namespace Go.Proofs.YtpcilobbohokcaaGreat
open Go Go.Wk Go.RowKit
attribute [local irreducible] go Hold
open Go.Lib
end Go.Proofs.YtpcilobbohokcaaGreat
