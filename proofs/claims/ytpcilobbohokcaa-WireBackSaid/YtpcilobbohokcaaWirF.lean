/-
  wire: a lookup in the table of forms; Word (walk).
-/
import Derived.Test.YtpcilobbohokcaaWirE
import Derived.Test.YtpcilobbohokcaaMap
set_option linter.unusedSimpArgs false
set_option linter.unusedVariables false
namespace Go.Proofs.Ytpcilobbohokcaa
open Go Go.Wk Go.RowKit
attribute [local irreducible] go Hold
open Go.Lib
def kd0 : Value := .agg #[.string ⟨#[]⟩, .int .i64 0, .int .i64 0, .nilFunc, .nilFunc, .nilFunc]
/-- The form of a kind. -/
def kdAt (k : Nat) : Value := match mfind (.int .u8 k) kindsL with
  | some v => v
  | none => kd0
def kdOk (k : Nat) : Bool := decide (1 ≤ k ∧ k ≤ 6)
theorem look_w {w : World} {r k : Nat} (ok : Bool) (h : MapAt w r kindsL) (hk : k < 256) : lookV TT 103 (.map (some r)) (.int .u8 k) ok w = some (if ok then .tuple #[kdAt k, .bool (kdOk k)] else kdAt k) := by
  have hl := look_at (T := TT) (t := 103) (i := .int .u8 k) (ok := ok) h rfl
  by_cases h9 : 1 ≤ k ∧ k ≤ 6
  · obtain ⟨h1, h2⟩ := h9
    have : k = 1 ∨ k = 2 ∨ k = 3 ∨ k = 4 ∨ k = 5 ∨ k = 6 := by omega
    rcases this with rfl | rfl | rfl | rfl | rfl | rfl <;> (rw [hl]; cases ok <;> rfl)
  · rw [hl]
    have hf : mfind (.int .u8 k) kindsL = none := by
      unfold kindsL
      simp only [mfind, eqKey]
      repeat (rw [decide_eq_false (by omega)]; simp only [cond_false])
    show cond (keyB (kOf TT 5) (.int .u8 k)) (cond (keysB (kOf TT 5) (kindsL.map (·.1))) (some (lookR ok _ (mfind (.int .u8 k) kindsL))) none) none = _
    have hko : kdOk k = false := by unfold kdOk; exact decide_eq_false h9
    unfold kdAt
    rw [hf, hko]
    have hkb : keyB (kOf TT 5) (.int .u8 k) = true := rfl
    rw [hkb]
    cases ok <;> rfl
def wordS (k : Nat) : List UInt8 := match k with
  | 1 => [112, 114, 101, 112, 97, 114, 101]
  | 2 => [118, 111, 116, 101]
  | 3 => [100, 101, 99, 105, 115, 105, 111, 110]
  | 4 => [97, 99, 107]
  | 5 => [113, 117, 101, 114, 121]
  | 6 => [104, 101, 108, 108, 111]
  | _ => []
theorem kdAt_eq (k : Nat) : ∃ mn mx a b c, kdAt k = .agg #[.string ⟨(wordS k).toArray⟩, .int .i64 mn, .int .i64 mx, a, b, c] ∧ a.oneCell' = true ∧ b.oneCell' = true ∧ c.oneCell' = true := by
  by_cases h9 : 1 ≤ k ∧ k ≤ 6
  · obtain ⟨h1, h2⟩ := h9
    have : k = 1 ∨ k = 2 ∨ k = 3 ∨ k = 4 ∨ k = 5 ∨ k = 6 := by omega
    rcases this with rfl | rfl | rfl | rfl | rfl | rfl <;> exact ⟨_, _, _, _, _, rfl, rfl, rfl, rfl⟩
  · have hf : mfind (.int .u8 k) kindsL = none := by
      unfold kindsL
      simp only [mfind, eqKey]
      repeat (rw [decide_eq_false (by omega)]; simp only [cond_false])
    have hw : wordS k = [] := by unfold wordS; split <;> first | omega | rfl
    unfold kdAt
    rw [hf, hw]
    exact ⟨_, _, _, _, _, rfl, rfl, rfl, rfl⟩
set_option maxHeartbeats 2000000 in
theorem wWord_cps (k : Nat) (hk : k < 256) (w : World) (R : Ending → World → Prop) (hR : ∀ w', Mod [] w w' → R (.returned (.string ⟨(wordS k).toArray⟩)) w') : Calls Try.prog 53 #[.int .u8 k] w R := by
  refine calls_go 4000 okT Try.func53 rfl (rs := [.tmp 2]) rfl Try.ntmps53 (args := [.int .u8 k]) ?_
  simp (config := { maxSteps := 1000000 }) (disch := first | omega | (simp only [sizeAlloc, sizeDrew, sizeSet, sizePut] <;> omega) | fail) only [GS1, GS2, GS3, GS4, GS5, GS6, GS7, GS8, GS9, GS10, GS11, TT_eq, TTl, Nat.reduceAdd, Nat.reduceMul, Nat.reduceSub, Nat.reduceDiv, Nat.reduceMod, Nat.reducePow, Nat.reduceEqDiff, ↓reduceIte, reduceCtorEq, true_and, and_true, and_self, false_and, and_false, Int.reduceToNat, Int.reduceAdd, Int.reduceSub, Int.reduceMul, cond_true, cond_false, List.toList_toArray, Option.map_some, Option.map_none, Option.some.injEq, List.cons_append, List.nil_append, List.length_cons, List.length_nil, List.getD_cons_zero, List.getD_cons_succ]
  refine ⟨fok57, wKinds_cps _ _ fun m w1 hm _ hM => .inl ⟨_, rfl, hold_ops okT (rs := [.tmp 2]) rfl ?_⟩⟩
  have hl := look_w false hm.at hk
  obtain ⟨mn, mx, a, b, c, e, -⟩ := kdAt_eq k
  rw [e] at hl
  simp only [Bool.false_eq_true, if_false] at hl
  simp (config := { maxSteps := 1000000 }) (disch := first | omega | (simp only [sizeAlloc, sizeDrew, sizeSet, sizePut] <;> omega) | fail) only [GS1, GS2, GS3, GS4, GS5, GS6, GS7, GS8, GS9, GS10, GS11, TT_eq, TTl, Nat.reduceAdd, Nat.reduceMul, Nat.reduceSub, Nat.reduceDiv, Nat.reduceMod, Nat.reducePow, Nat.reduceEqDiff, ↓reduceIte, reduceCtorEq, true_and, and_true, and_self, false_and, and_false, Int.reduceToNat, Int.reduceAdd, Int.reduceSub, Int.reduceMul, cond_true, cond_false, List.toList_toArray, Option.map_some, Option.map_none, Option.some.injEq, List.cons_append, List.nil_append, List.length_cons, List.length_nil, List.getD_cons_zero, List.getD_cons_succ, hl]
  exact hR _ hM
end Go.Proofs.Ytpcilobbohokcaa
