/-
  wire: a form's writer, whichever (walk).
-/
import Derived.Test.YtpcilobbohokcaaWirG
set_option linter.unusedSimpArgs false
set_option linter.unusedVariables false
namespace Go.Proofs.Ytpcilobbohokcaa
open Go Go.Wk Go.RowKit
attribute [local irreducible] go Hold
open Go.Lib
def wrAt (k : Nat) : Nat := match k with
  | 1 => 98
  | 2 => 103
  | 3 => 108
  | _ => 122
def rowsL (k : Nat) (m : Msg) : List (List UInt8) := match k with
  | 1 => k2L m
  | 2 => k5L m
  | 3 => [yesS m.yes]
  | _ => []
theorem wr_ok (k : Nat) : FOk Try.prog (wrAt k) := by
  unfold wrAt
  split
  · exact fok98
  · exact fok103
  · exact fok108
  · exact fok122
theorem wWrite_cps (k : Nat) (m : Msg) (sa : Value) (h1 : -9223372036854775808 ≤ m.aud) (h2 : m.aud ≤ 9223372036854775807) (hl : m.mbs.length ≤ 1000000) (hd : ∀ x ∈ m.mbs, x.2.length ≤ maxLen) (w : World) (ha : Rd w 2 sa m.mbs.length (m.mbs.flatMap mbC)) (R : Ending → World → Prop) (hR : ∀ sv w', w'.ownsRow w.heap.size 9 1 sv (rowsL k m).length ((rowsL k m).map strV) → Mod [] w w' → R (.returned sv) w') : Calls Try.prog (wrAt k) #[msgV m sa] w R := by
  unfold wrAt
  unfold rowsL at hR
  split at hR
  · exact wK2_cps m sa h1 h2 hl hd w ha R hR
  · exact wK5_cps m sa w R hR
  · exact wK8_cps m sa w R (fun sv w' h hM => hR sv w' h hM)
  · exact wP2_cps m sa w R (fun w' hM => hR _ w' (World.ownsRow_nil _ _ _ _) hM)
theorem kdAt_wr (k : Nat) (h : 1 ≤ k ∧ k ≤ 6) : ∃ mn mx a c, kdAt k = .agg #[.string ⟨(wordS k).toArray⟩, .int .i64 mn, .int .i64 mx, a, .func (.func (wrAt k)) #[] #[], c] ∧ a.oneCell' = true ∧ c.oneCell' = true := by
  obtain ⟨h1, h2⟩ := h
  have : k = 1 ∨ k = 2 ∨ k = 3 ∨ k = 4 ∨ k = 5 ∨ k = 6 := by omega
  rcases this with rfl | rfl | rfl | rfl | rfl | rfl <;> exact ⟨_, _, _, _, rfl, rfl, rfl⟩
end Go.Proofs.Ytpcilobbohokcaa
