/-
  wire: a form's reader, whichever (walk).
-/
import Derived.Test.YtpcilobbohokcaaWirH
set_option linter.unusedSimpArgs false
set_option linter.unusedVariables false
namespace Go.Proofs.Ytpcilobbohokcaa
open Go Go.Wk Go.RowKit
attribute [local irreducible] go Hold
open Go.Lib
def rdAt (k : Nat) : Nat := match k with
  | 1 => 99
  | 2 => 105
  | 3 => 109
  | _ => 123
theorem rd_ok (k : Nat) : FOk Try.prog (rdAt k) := by
  unfold rdAt
  split
  · exact fok99
  · exact fok105
  · exact fok109
  · exact fok123
/-- How many fields a form has. -/
def mnAt (k : Nat) : Nat := match k with
  | 1 => 3
  | 2 => 1
  | 3 => 1
  | _ => 0
def mxAt (k : Nat) : Nat := match k with
  | 1 => 3
  | 2 => 2
  | 3 => 1
  | _ => 0
theorem kdAt_rd (k : Nat) (h : 1 ≤ k ∧ k ≤ 6) : ∃ a b, kdAt k = .agg #[.string ⟨(wordS k).toArray⟩, .int .i64 (mnAt k : Nat), .int .i64 (mxAt k : Nat), a, b, .func (.func (rdAt k)) #[] #[]] ∧ a.oneCell' = true ∧ b.oneCell' = true := by
  obtain ⟨h1, h2⟩ := h
  have : k = 1 ∨ k = 2 ∨ k = 3 ∨ k = 4 ∨ k = 5 ∨ k = 6 := by omega
  rcases this with rfl | rfl | rfl | rfl | rfl | rfl <;> exact ⟨_, _, rfl, rfl, rfl⟩
end Go.Proofs.Ytpcilobbohokcaa
