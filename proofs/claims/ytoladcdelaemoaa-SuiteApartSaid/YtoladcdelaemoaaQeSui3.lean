/-
  A suite of terms: Hash, Seal, Open, Kind (walks).
-/
import Derived.Test.YtoladcdelaemoaaQeSui2
set_option linter.unusedSimpArgs false
set_option linter.unusedVariables false
set_option maxRecDepth 20000
namespace Go.Proofs.Ytoladcdelaemoaa
open Go Go.Wk Go.RowKit
attribute [local irreducible] go Hold
open Go.Lib
theorem mHash (w : World) : (method (Try.prog.types.size + Made.depth) 72 (.agg #[]) "chirograph/suite.hash").run Try.prog w = .ok (118, .agg #[]) w := by kernel_rfl
theorem mSeal (w : World) : (method (Try.prog.types.size + Made.depth) 72 (.agg #[]) "chirograph/suite.seal").run Try.prog w = .ok (122, .agg #[]) w := by kernel_rfl
theorem mOpen (w : World) : (method (Try.prog.types.size + Made.depth) 72 (.agg #[]) "chirograph/suite.open").run Try.prog w = .ok (121, .agg #[]) w := by kernel_rfl
set_option maxRecDepth 20000 in
set_option maxHeartbeats 4000000 in
theorem sHashT_cps (x : List UInt8) (hx : x.length ≤ 1000000) (w : World) (R : Ending → World → Prop) (hR : ∀ w', Mod [] w w' → R (.returned (stV (madeS [104] [x]))) w') :
    Calls Try.prog 118 #[.agg #[], .string ⟨x.toArray⟩] w R := by
  refine calls_go 4000 okT Try.func118 rfl (rs := [.tmp 4, .tmp 5]) rfl Try.ntmps118 (args := [.agg #[], .string ⟨x.toArray⟩]) ?_
  simp (maxSteps := 1000000) (disch := first | omega | (simp only [sizeAlloc, sizeDrew, sizeSet, sizePut] <;> omega) | fail) only [GS, TT_eq, TTl, Nat.reduceAdd, Nat.reduceMul, Nat.reduceSub, Nat.reduceDiv, Nat.reduceMod, Nat.reducePow, Nat.reduceEqDiff, ↓reduceIte, reduceCtorEq, Int.reduceToNat, Int.reduceAdd, Int.reduceSub, Int.reduceMul]
  generalize hW : w.alloc (.cells #[] 72) = w1
  have hM0 : Mod [] w w1 := by subst hW; exact (Mod.refl [] w).alloc _
  clear hW
  refine ⟨fok100, tHash_cps x hx _ _ fun w2 hM2 => .inl ⟨_, rfl, hold_ops okT (rs := [.tmp 4, .tmp 5]) rfl ?_⟩⟩
  have hM02 := hM0.trans hM2 (by simp)
  unfold stV at hR ⊢
  simp (maxSteps := 1000000) (disch := first | omega | (simp only [sizeAlloc, sizeDrew, sizeSet, sizePut] <;> omega) | fail) only [GS, TT_eq, TTl, Nat.reduceAdd, Nat.reduceMul, Nat.reduceSub, Nat.reduceDiv, Nat.reduceMod, Nat.reducePow, Nat.reduceEqDiff, ↓reduceIte, reduceCtorEq, Int.reduceToNat, Int.reduceAdd, Int.reduceSub, Int.reduceMul]
  exact hR _ hM02
set_option maxRecDepth 20000 in
set_option maxHeartbeats 4000000 in
theorem sSealT_cps (x y z : List UInt8) (hx : x.length ≤ 1000000) (hy : y.length ≤ 1000000) (hz : z.length ≤ 1000000) (w : World) (R : Ending → World → Prop) (hR : ∀ w', Mod [] w w' → R (.returned (stV (madeS [115] [x, y, z]))) w') :
    Calls Try.prog 122 #[.agg #[], .string ⟨x.toArray⟩, .string ⟨y.toArray⟩, .string ⟨z.toArray⟩] w R := by
  refine calls_go 4000 okT Try.func122 rfl (rs := [.tmp 8, .tmp 9]) rfl Try.ntmps122 (args := [.agg #[], .string ⟨x.toArray⟩, .string ⟨y.toArray⟩, .string ⟨z.toArray⟩]) ?_
  simp (maxSteps := 1000000) (disch := first | omega | (simp only [sizeAlloc, sizeDrew, sizeSet, sizePut] <;> omega) | fail) only [GS, TT_eq, TTl, Nat.reduceAdd, Nat.reduceMul, Nat.reduceSub, Nat.reduceDiv, Nat.reduceMod, Nat.reducePow, Nat.reduceEqDiff, ↓reduceIte, reduceCtorEq, Int.reduceToNat, Int.reduceAdd, Int.reduceSub, Int.reduceMul]
  generalize hW : w.alloc (.cells #[] 72) = w1
  have hM0 : Mod [] w w1 := by subst hW; exact (Mod.refl [] w).alloc _
  clear hW
  refine ⟨fok31, tSeal_cps x y z hx hy hz _ _ fun w2 hM2 => .inl ⟨_, rfl, hold_ops okT (rs := [.tmp 8, .tmp 9]) rfl ?_⟩⟩
  have hM02 := hM0.trans hM2 (by simp)
  unfold stV at hR ⊢
  simp (maxSteps := 1000000) (disch := first | omega | (simp only [sizeAlloc, sizeDrew, sizeSet, sizePut] <;> omega) | fail) only [GS, TT_eq, TTl, Nat.reduceAdd, Nat.reduceMul, Nat.reduceSub, Nat.reduceDiv, Nat.reduceMod, Nat.reducePow, Nat.reduceEqDiff, ↓reduceIte, reduceCtorEq, Int.reduceToNat, Int.reduceAdd, Int.reduceSub, Int.reduceMul]
  exact hR _ hM02
/-- What is opened, of terms: the parts are known to be three. -/
def openT (k x : List UInt8) : List UInt8 × Int := if kindS x = 6 then (if (partsS x).getD 0 [] = k then ((partsS x).getD 2 [], 0) else ([], 80)) else ([], 7)
end Go.Proofs.Ytoladcdelaemoaa
