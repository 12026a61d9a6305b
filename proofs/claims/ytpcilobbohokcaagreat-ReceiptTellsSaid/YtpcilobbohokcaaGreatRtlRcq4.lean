/-
  The reference's Decode of a receipt (plain, and the walk).
-/
import Derived.Test.YtpcilobbohokcaaGreatRtlRcq2
import Derived.Test.YtpcilobbohokcaaGreatRtlRefI
import Derived.Test.YtpcilobbohokcaaGreatRtlRefD
import Derived.Test.YtpcilobbohokcaaGreatRtlC2
import Derived.Test.YtpcilobbohokcaaGreatRtlC4
set_option linter.unusedSimpArgs false
set_option linter.unusedVariables false
set_option maxRecDepth 20000
namespace Go.Proofs.YtpcilobbohokcaaGreat
open Go Go.Wk Go.RowKit
attribute [local irreducible] go Hold
open Go.Lib
theorem modSet6 {F : List Nat} {v w : World} {p : Nat} {x0 x1 x2 x3 x4 x5 : Value} (h : Mod F v w) (hn : p ∈ F ∨ v.heap.size ≤ p) : Mod F v ((((((w.setCell ⟨p, 0, none⟩ x0).setCell ⟨p, 1, none⟩ x1).setCell ⟨p, 2, none⟩ x2).setCell ⟨p, 3, none⟩ x3).setCell ⟨p, 4, none⟩ x4).setCell ⟨p, 5, none⟩ x5) :=
  (((((h.set (p := ⟨p, 0, none⟩) hn x0).set (p := ⟨p, 1, none⟩) hn x1).set (p := ⟨p, 2, none⟩) hn x2).set (p := ⟨p, 3, none⟩) hn x3).set (p := ⟨p, 4, none⟩) hn x4).set (p := ⟨p, 5, none⟩) hn x5
theorem box6 {w W : World} {t : Nat} {a0 a1 a2 a3 a4 a5 x0 x1 x2 x3 x4 x5 : Value} (h : ((((((w.alloc (.cells #[a0, a1, a2, a3, a4, a5] t)).setCell ⟨w.heap.size, 0, none⟩ x0).setCell ⟨w.heap.size, 1, none⟩ x1).setCell ⟨w.heap.size, 2, none⟩ x2).setCell ⟨w.heap.size, 3, none⟩ x3).setCell ⟨w.heap.size, 4, none⟩ x4).setCell ⟨w.heap.size, 5, none⟩ x5 = W) : W.heap[w.heap.size]? = some (.cells #[x0, x1, x2, x3, x4, x5] t (0, 0)) ∧ Mod [] w W := by
  subst h
  exact ⟨st6 heapNew, modSet6 ((Mod.refl [] w).alloc (.cells #[a0, a1, a2, a3, a4, a5] t)) (.inr (Nat.le_refl _))⟩
end Go.Proofs.YtpcilobbohokcaaGreat
