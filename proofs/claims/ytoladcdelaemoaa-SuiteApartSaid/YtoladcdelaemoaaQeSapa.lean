/-
  SuiteApart: what follows its last region (walk).
-/
import Derived.Test.YtoladcdelaemoaaQeSgp1
set_option linter.unusedSimpArgs false
set_option linter.unusedVariables false
set_option maxRecDepth 20000
namespace Go.Proofs.Ytoladcdelaemoaa
open Go Go.Wk Go.RowKit
attribute [local irreducible] go Hold
open Go.Lib
theorem beq2_selfA (b : Bool) : beq2 b b = true := by cases b <;> rfl
/-- Where a region begins, and what follows it. -/
def sufC (r : Nat) : Code → List Code → List Code
  | .region i o d, l => cond (Nat.beq i r) (.region i o d :: l) []
  | .seq a b, l => match sufC r a (b :: l) with
    | [] => sufC r b l
    | x :: xs => x :: xs
  | .cond _ a b, l => match sufC r a l with
    | [] => sufC r b l
    | x :: xs => x :: xs
  | _, _ => []
set_option maxRecDepth 20000 in
set_option maxHeartbeats 40000000 in
theorem apart17 (kt : List Int) (a b k j n m t u x0 x1 x2 x3 x4 x5 x6 x7 : List UInt8) (e0 e1 e2 e3 e4 e5 e6 e7 : Int) (s : Nat) (w w9 : World) (hK : KTab w kt) (R : Ending → World → Prop) (hR : ∀ w', Mod [] w w' → R (.returned (.bool true)) w') (hM1 : Mod [] w w9)
    (p5 : ∀ x y : List UInt8, (x2, e2) = (x, 0) → (x4, e4) = (y, 0) → ¬ x = y)
    (p6 : ∀ x y : List UInt8, (x4, e4) = (x, 0) → (x6, e6) = (y, 0) → ¬ x = y)
    (J : Nat → Value) : Hold Try.prog TT { ro := none, ds := [], stop := none } R (fin Try.prog Try.f5 R) (.code ((sufC 17 ((Try.f5.body).getD .skip) []).getD 0 .skip)) [.code ((sufC 17 ((Try.f5.body).getD .skip) []).getD 1 .skip)]
      (sets (havoc (List.replicate 237 undef) J [8, 9, 10, 11, 12, 13, 14, 15, 16, 36, 37, 38, 39, 40, 41, 42, 43, 44, 45, 46, 47, 48, 49, 50, 51, 52, 53, 54, 55, 56, 57, 58, 59, 60, 61, 62, 63, 64, 65, 66, 67, 68, 69, 70, 71, 72, 73, 74, 75, 76, 77, 78, 79, 80, 81, 82, 83, 84, 85, 86, 87, 88, 89, 90, 91, 92, 93, 94, 95, 96, 97, 98, 99, 100, 101, 102, 103, 104, 105, 106, 107, 108, 109, 110, 111, 112, 113, 114, 115, 116, 117, 118, 119, 120, 121, 122, 123, 124, 125, 126, 127, 128, 129, 130, 131, 132, 133, 134, 135, 136, 137, 138, 139, 140, 141, 142, 143, 144, 145, 146, 147, 148, 149, 150, 151, 152, 153, 154, 155, 156, 157, 158, 159, 160, 161, 162, 163, 164, 165, 166, 167, 168, 169, 170, 171, 172, 173, 174, 175, 176, 177, 178, 179, 180, 181, 182, 183, 184, 185, 186, 187, 188, 189, 190, 191, 192, 193, 194, 195, 196, 197, 198, 199, 200, 201, 202, 203, 204, 205, 206, 207, 208, 209, 210, 211, 212, 213, 214, 215, 216, 217, 218, 219, 220, 221, 222, 223, 224, 225, 226, 227, 228, 229, 230, 231, 232, 233, 234, 235, 236]) [0, 1, 2, 3, 4, 5, 6, 7, 17, 18, 19, 20, 21, 22, 23, 24, 25, 26, 27, 28, 29, 30, 31, 32, 33, 34, 35] [.string ⟨a.toArray⟩, .string ⟨b.toArray⟩, .string ⟨k.toArray⟩, .string ⟨j.toArray⟩, .string ⟨n.toArray⟩, .string ⟨m.toArray⟩, .string ⟨t.toArray⟩, .string ⟨u.toArray⟩, .pointer (some ⟨s, 0, none⟩), .int .i64 0, .string ⟨x0.toArray⟩, .int .i64 e0, .string ⟨x1.toArray⟩, .int .i64 e1, .string ⟨x2.toArray⟩, .int .i64 e2, .string ⟨x3.toArray⟩, .int .i64 e3, .string ⟨x4.toArray⟩, .int .i64 e4, .string ⟨x5.toArray⟩, .int .i64 e5, .string ⟨x6.toArray⟩, .int .i64 e6, .string ⟨x7.toArray⟩, .int .i64 e7, .int .i64 0]) w9 := by
  rw [show (sets (havoc (List.replicate 237 undef) J [8, 9, 10, 11, 12, 13, 14, 15, 16, 36, 37, 38, 39, 40, 41, 42, 43, 44, 45, 46, 47, 48, 49, 50, 51, 52, 53, 54, 55, 56, 57, 58, 59, 60, 61, 62, 63, 64, 65, 66, 67, 68, 69, 70, 71, 72, 73, 74, 75, 76, 77, 78, 79, 80, 81, 82, 83, 84, 85, 86, 87, 88, 89, 90, 91, 92, 93, 94, 95, 96, 97, 98, 99, 100, 101, 102, 103, 104, 105, 106, 107, 108, 109, 110, 111, 112, 113, 114, 115, 116, 117, 118, 119, 120, 121, 122, 123, 124, 125, 126, 127, 128, 129, 130, 131, 132, 133, 134, 135, 136, 137, 138, 139, 140, 141, 142, 143, 144, 145, 146, 147, 148, 149, 150, 151, 152, 153, 154, 155, 156, 157, 158, 159, 160, 161, 162, 163, 164, 165, 166, 167, 168, 169, 170, 171, 172, 173, 174, 175, 176, 177, 178, 179, 180, 181, 182, 183, 184, 185, 186, 187, 188, 189, 190, 191, 192, 193, 194, 195, 196, 197, 198, 199, 200, 201, 202, 203, 204, 205, 206, 207, 208, 209, 210, 211, 212, 213, 214, 215, 216, 217, 218, 219, 220, 221, 222, 223, 224, 225, 226, 227, 228, 229, 230, 231, 232, 233, 234, 235, 236]) [0, 1, 2, 3, 4, 5, 6, 7, 17, 18, 19, 20, 21, 22, 23, 24, 25, 26, 27, 28, 29, 30, 31, 32, 33, 34, 35] [.string ⟨a.toArray⟩, .string ⟨b.toArray⟩, .string ⟨k.toArray⟩, .string ⟨j.toArray⟩, .string ⟨n.toArray⟩, .string ⟨m.toArray⟩, .string ⟨t.toArray⟩, .string ⟨u.toArray⟩, .pointer (some ⟨s, 0, none⟩), .int .i64 0, .string ⟨x0.toArray⟩, .int .i64 e0, .string ⟨x1.toArray⟩, .int .i64 e1, .string ⟨x2.toArray⟩, .int .i64 e2, .string ⟨x3.toArray⟩, .int .i64 e3, .string ⟨x4.toArray⟩, .int .i64 e4, .string ⟨x5.toArray⟩, .int .i64 e5, .string ⟨x6.toArray⟩, .int .i64 e6, .string ⟨x7.toArray⟩, .int .i64 e7, .int .i64 0]) = [.string ⟨a.toArray⟩, .string ⟨b.toArray⟩, .string ⟨k.toArray⟩, .string ⟨j.toArray⟩, .string ⟨n.toArray⟩, .string ⟨m.toArray⟩, .string ⟨t.toArray⟩, .string ⟨u.toArray⟩, J 8, J 9, J 10, J 11, J 12, J 13, J 14, J 15, J 16, .pointer (some ⟨s, 0, none⟩), .int .i64 0, .string ⟨x0.toArray⟩, .int .i64 e0, .string ⟨x1.toArray⟩, .int .i64 e1, .string ⟨x2.toArray⟩, .int .i64 e2, .string ⟨x3.toArray⟩, .int .i64 e3, .string ⟨x4.toArray⟩, .int .i64 e4, .string ⟨x5.toArray⟩, .int .i64 e5, .string ⟨x6.toArray⟩, .int .i64 e6, .string ⟨x7.toArray⟩, .int .i64 e7, .int .i64 0, J 36, J 37, J 38, J 39, J 40, J 41, J 42, J 43, J 44, J 45, J 46, J 47, J 48, J 49, J 50, J 51, J 52, J 53, J 54, J 55, J 56, J 57, J 58, J 59, J 60, J 61, J 62, J 63, J 64, J 65, J 66, J 67, J 68, J 69, J 70, J 71, J 72, J 73, J 74, J 75, J 76, J 77, J 78, J 79, J 80, J 81, J 82, J 83, J 84, J 85, J 86, J 87, J 88, J 89, J 90, J 91, J 92, J 93, J 94, J 95, J 96, J 97, J 98, J 99, J 100, J 101, J 102, J 103, J 104, J 105, J 106, J 107, J 108, J 109, J 110, J 111, J 112, J 113, J 114, J 115, J 116, J 117, J 118, J 119, J 120, J 121, J 122, J 123, J 124, J 125, J 126, J 127, J 128, J 129, J 130, J 131, J 132, J 133, J 134, J 135, J 136, J 137, J 138, J 139, J 140, J 141, J 142, J 143, J 144, J 145, J 146, J 147, J 148, J 149, J 150, J 151, J 152, J 153, J 154, J 155, J 156, J 157, J 158, J 159, J 160, J 161, J 162, J 163, J 164, J 165, J 166, J 167, J 168, J 169, J 170, J 171, J 172, J 173, J 174, J 175, J 176, J 177, J 178, J 179, J 180, J 181, J 182, J 183, J 184, J 185, J 186, J 187, J 188, J 189, J 190, J 191, J 192, J 193, J 194, J 195, J 196, J 197, J 198, J 199, J 200, J 201, J 202, J 203, J 204, J 205, J 206, J 207, J 208, J 209, J 210, J 211, J 212, J 213, J 214, J 215, J 216, J 217, J 218, J 219, J 220, J 221, J 222, J 223, J 224, J 225, J 226, J 227, J 228, J 229, J 230, J 231, J 232, J 233, J 234, J 235, J 236] from by kernel_rfl]
  conv in (sufC 17 _ _).getD 0 _ => whnf
  conv in (sufC 17 _ _).getD 1 _ => whnf
  refine hold_code (rs := [.tmp 16]) okT rfl ?_
  by_cases h4 : e4 = 0
  rotate_left
  · by_cases h2 : e2 = 0
    · simp (maxSteps := 1000000) (disch := first | omega | (simp only [sizeAlloc, sizeDrew, sizeSet, sizePut] <;> omega) | fail) only [GS, TT_eq, TTl, Nat.reduceAdd, Nat.reduceMul, Nat.reduceSub, Nat.reduceDiv, Nat.reduceMod, Nat.reducePow, Nat.reduceEqDiff, ↓reduceIte, reduceCtorEq, Int.reduceToNat, Int.reduceAdd, Int.reduceSub, Int.reduceMul, eq_self, h2, h4]
      refine ⟨fok16, alive8_cps kt _ (hK.mod hM1 (by simp)) _ fun w12 hM2 => .inl ⟨_, rfl, hold_ops (rs := [.tmp 16]) okT rfl ?_⟩⟩
      simp (maxSteps := 1000000) (disch := first | omega | (simp only [sizeAlloc, sizeDrew, sizeSet, sizePut] <;> omega) | fail) only [GS, TT_eq, TTl, Nat.reduceAdd, Nat.reduceMul, Nat.reduceSub, Nat.reduceDiv, Nat.reduceMod, Nat.reducePow, Nat.reduceEqDiff, ↓reduceIte, reduceCtorEq, Int.reduceToNat, Int.reduceAdd, Int.reduceSub, Int.reduceMul]
      exact hR _ (hM1.trans hM2 (by simp))
    · simp (maxSteps := 1000000) (disch := first | omega | (simp only [sizeAlloc, sizeDrew, sizeSet, sizePut] <;> omega) | fail) only [GS, TT_eq, TTl, Nat.reduceAdd, Nat.reduceMul, Nat.reduceSub, Nat.reduceDiv, Nat.reduceMod, Nat.reducePow, Nat.reduceEqDiff, ↓reduceIte, reduceCtorEq, Int.reduceToNat, Int.reduceAdd, Int.reduceSub, Int.reduceMul, eq_self, h2, h4]
      refine ⟨fok16, alive8_cps kt _ (hK.mod hM1 (by simp)) _ fun w12 hM2 => .inl ⟨_, rfl, hold_ops (rs := [.tmp 16]) okT rfl ?_⟩⟩
      simp (maxSteps := 1000000) (disch := first | omega | (simp only [sizeAlloc, sizeDrew, sizeSet, sizePut] <;> omega) | fail) only [GS, TT_eq, TTl, Nat.reduceAdd, Nat.reduceMul, Nat.reduceSub, Nat.reduceDiv, Nat.reduceMod, Nat.reducePow, Nat.reduceEqDiff, ↓reduceIte, reduceCtorEq, Int.reduceToNat, Int.reduceAdd, Int.reduceSub, Int.reduceMul]
      exact hR _ (hM1.trans hM2 (by simp))
  have g6 : e6 = 0 → ¬ x4 = x6 := fun h6 => p6 x4 x6 (by rw [h4]) (by rw [h6])
  have g5 : e2 = 0 → ¬ x2 = x4 := fun h2 => p5 x2 x4 (by rw [h2]) (by rw [h4])
  by_cases h6 : e6 = 0
  · have c6 := g6 h6
    by_cases h2 : e2 = 0
    · have c5 := g5 h2
      simp (maxSteps := 1000000) (disch := first | omega | (simp only [sizeAlloc, sizeDrew, sizeSet, sizePut] <;> omega) | fail) only [GS, TT_eq, TTl, Nat.reduceAdd, Nat.reduceMul, Nat.reduceSub, Nat.reduceDiv, Nat.reduceMod, Nat.reducePow, Nat.reduceEqDiff, ↓reduceIte, reduceCtorEq, Int.reduceToNat, Int.reduceAdd, Int.reduceSub, Int.reduceMul, eq_self, h2, h4, h6, c5, c6]
      refine ⟨fok16, alive8_cps kt _ (hK.mod hM1 (by simp)) _ fun w12 hM2 => .inl ⟨_, rfl, hold_ops (rs := [.tmp 16]) okT rfl ?_⟩⟩
      simp (maxSteps := 1000000) (disch := first | omega | (simp only [sizeAlloc, sizeDrew, sizeSet, sizePut] <;> omega) | fail) only [GS, TT_eq, TTl, Nat.reduceAdd, Nat.reduceMul, Nat.reduceSub, Nat.reduceDiv, Nat.reduceMod, Nat.reducePow, Nat.reduceEqDiff, ↓reduceIte, reduceCtorEq, Int.reduceToNat, Int.reduceAdd, Int.reduceSub, Int.reduceMul]
      exact hR _ (hM1.trans hM2 (by simp))
    · simp (maxSteps := 1000000) (disch := first | omega | (simp only [sizeAlloc, sizeDrew, sizeSet, sizePut] <;> omega) | fail) only [GS, TT_eq, TTl, Nat.reduceAdd, Nat.reduceMul, Nat.reduceSub, Nat.reduceDiv, Nat.reduceMod, Nat.reducePow, Nat.reduceEqDiff, ↓reduceIte, reduceCtorEq, Int.reduceToNat, Int.reduceAdd, Int.reduceSub, Int.reduceMul, eq_self, h2, h4, h6, c6]
      refine ⟨fok16, alive8_cps kt _ (hK.mod hM1 (by simp)) _ fun w12 hM2 => .inl ⟨_, rfl, hold_ops (rs := [.tmp 16]) okT rfl ?_⟩⟩
      simp (maxSteps := 1000000) (disch := first | omega | (simp only [sizeAlloc, sizeDrew, sizeSet, sizePut] <;> omega) | fail) only [GS, TT_eq, TTl, Nat.reduceAdd, Nat.reduceMul, Nat.reduceSub, Nat.reduceDiv, Nat.reduceMod, Nat.reducePow, Nat.reduceEqDiff, ↓reduceIte, reduceCtorEq, Int.reduceToNat, Int.reduceAdd, Int.reduceSub, Int.reduceMul]
      exact hR _ (hM1.trans hM2 (by simp))
  · by_cases h2 : e2 = 0
    · have c5 := g5 h2
      simp (maxSteps := 1000000) (disch := first | omega | (simp only [sizeAlloc, sizeDrew, sizeSet, sizePut] <;> omega) | fail) only [GS, TT_eq, TTl, Nat.reduceAdd, Nat.reduceMul, Nat.reduceSub, Nat.reduceDiv, Nat.reduceMod, Nat.reducePow, Nat.reduceEqDiff, ↓reduceIte, reduceCtorEq, Int.reduceToNat, Int.reduceAdd, Int.reduceSub, Int.reduceMul, eq_self, h2, h4, h6, c5]
      refine ⟨fok16, alive8_cps kt _ (hK.mod hM1 (by simp)) _ fun w12 hM2 => .inl ⟨_, rfl, hold_ops (rs := [.tmp 16]) okT rfl ?_⟩⟩
      simp (maxSteps := 1000000) (disch := first | omega | (simp only [sizeAlloc, sizeDrew, sizeSet, sizePut] <;> omega) | fail) only [GS, TT_eq, TTl, Nat.reduceAdd, Nat.reduceMul, Nat.reduceSub, Nat.reduceDiv, Nat.reduceMod, Nat.reducePow, Nat.reduceEqDiff, ↓reduceIte, reduceCtorEq, Int.reduceToNat, Int.reduceAdd, Int.reduceSub, Int.reduceMul]
      exact hR _ (hM1.trans hM2 (by simp))
    · simp (maxSteps := 1000000) (disch := first | omega | (simp only [sizeAlloc, sizeDrew, sizeSet, sizePut] <;> omega) | fail) only [GS, TT_eq, TTl, Nat.reduceAdd, Nat.reduceMul, Nat.reduceSub, Nat.reduceDiv, Nat.reduceMod, Nat.reducePow, Nat.reduceEqDiff, ↓reduceIte, reduceCtorEq, Int.reduceToNat, Int.reduceAdd, Int.reduceSub, Int.reduceMul, eq_self, h2, h4, h6]
      refine ⟨fok16, alive8_cps kt _ (hK.mod hM1 (by simp)) _ fun w12 hM2 => .inl ⟨_, rfl, hold_ops (rs := [.tmp 16]) okT rfl ?_⟩⟩
      simp (maxSteps := 1000000) (disch := first | omega | (simp only [sizeAlloc, sizeDrew, sizeSet, sizePut] <;> omega) | fail) only [GS, TT_eq, TTl, Nat.reduceAdd, Nat.reduceMul, Nat.reduceSub, Nat.reduceDiv, Nat.reduceMod, Nat.reducePow, Nat.reduceEqDiff, ↓reduceIte, reduceCtorEq, Int.reduceToNat, Int.reduceAdd, Int.reduceSub, Int.reduceMul]
      exact hR _ (hM1.trans hM2 (by simp))
end Go.Proofs.Ytoladcdelaemoaa
