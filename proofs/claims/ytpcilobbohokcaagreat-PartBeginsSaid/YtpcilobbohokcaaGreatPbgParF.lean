/-
  PartSteps (walk).
-/
import Derived.Test.YtpcilobbohokcaaGreatPbgParE
set_option linter.unusedSimpArgs false
set_option linter.unusedVariables false
set_option maxRecDepth 20000
namespace Go.Proofs.YtpcilobbohokcaaGreat
open Go Go.Wk Go.RowKit
attribute [local irreducible] go Hold
open Go.Lib
theorem agg10p {w w' : World} {n : Nat} {x0 x1 x2 x3 x4 x5 x6 x7 x8 x9 : Value} (h : w.heap[n]? = some (.cells #[x0, x1, x2, x3, x4, x5, x6, x7, x8, x9] 72 (0, 0))) (hm : Mod [] w w') : aggO (consO (w'.cell? ⟨n, 0, none⟩) (consO (w'.cell? ⟨n, 1, none⟩) (consO (w'.cell? ⟨n, 2, none⟩) (consO (w'.cell? ⟨n, 3, none⟩) (consO (w'.cell? ⟨n, 4, none⟩) (consO (w'.cell? ⟨n, 5, none⟩) (consO (w'.cell? ⟨n, 6, none⟩) (consO (w'.cell? ⟨n, 7, none⟩) (consO (w'.cell? ⟨n, 8, none⟩) (consO (w'.cell? ⟨n, 9, none⟩) (some []))))))))))) = some (.agg #[x0, x1, x2, x3, x4, x5, x6, x7, x8, x9]) := by
  have c := fun o => cellOf (o := o) (hm.get h (by simp))
  rw [c 0, c 1, c 2, c 3, c 4, c 5, c 6, c 7, c 8, c 9]
  rfl
theorem agg9p {w w' : World} {n : Nat} {x0 x1 x2 x3 x4 x5 x6 x7 x8 : Value} (h : w.heap[n]? = some (.cells #[x0, x1, x2, x3, x4, x5, x6, x7, x8] 35 (0, 0))) (hm : Mod [] w w') : aggO (consO (w'.cell? ⟨n, 0, none⟩) (consO (w'.cell? ⟨n, 1, none⟩) (consO (w'.cell? ⟨n, 2, none⟩) (consO (w'.cell? ⟨n, 3, none⟩) (consO (w'.cell? ⟨n, 4, none⟩) (consO (w'.cell? ⟨n, 5, none⟩) (consO (w'.cell? ⟨n, 6, none⟩) (consO (w'.cell? ⟨n, 7, none⟩) (consO (w'.cell? ⟨n, 8, none⟩) (some [])))))))))) = some (.agg #[x0, x1, x2, x3, x4, x5, x6, x7, x8]) := by
  have c := fun o => cellOf (o := o) (hm.get h (by simp))
  rw [c 0, c 1, c 2, c 3, c 4, c 5, c 6, c 7, c 8]
  rfl
theorem agg6p {w w' : World} {n : Nat} {x0 x1 x2 x3 x4 x5 : Value} (h : w.heap[n]? = some (.cells #[x0, x1, x2, x3, x4, x5] 56 (0, 0))) (hm : Mod [] w w') : aggO (consO (w'.cell? ⟨n, 0, none⟩) (consO (w'.cell? ⟨n, 1, none⟩) (consO (w'.cell? ⟨n, 2, none⟩) (consO (w'.cell? ⟨n, 3, none⟩) (consO (w'.cell? ⟨n, 4, none⟩) (consO (w'.cell? ⟨n, 5, none⟩) (some []))))))) = some (.agg #[x0, x1, x2, x3, x4, x5]) := by
  have c := fun o => cellOf (o := o) (hm.get h (by simp))
  rw [c 0, c 1, c 2, c 3, c 4, c 5]
  rfl
theorem pb2_self (b : Bool) : beq2 b b = true := by cases b <;> rfl
theorem res_len {p : Pt} (E : Except Int Pt) (h : ∀ q, E = .ok q → q.mbs = p.mbs) (hl : p.mbs.length ≤ 1000000) : (resQ E).mbs.length ≤ 1000000 := by
  cases E with
  | ok q => rw [show resQ (.ok q) = q from rfl, h q rfl]; exact hl
  | error c => simp [resQ, ptN]
end Go.Proofs.YtpcilobbohokcaaGreat
