/-
  part: what there is in a state (walk).
-/
import Derived.Test.YtpcilobbohokcaaPkpPar1
set_option linter.unusedSimpArgs false
set_option linter.unusedVariables false
namespace Go.Proofs.Ytpcilobbohokcaa
open Go Go.Wk Go.RowKit
attribute [local irreducible] go Hold
open Go.Lib
def foldS (p : Nat) : Nat → List Value → World → World
  | _, [], w => w
  | k, x :: xs, w => foldS p (k + 1) xs (w.setCell ⟨p, k, none⟩ x)
def setA : Nat → List Value → Array Value → Array Value
  | _, [], a => a
  | k, x :: xs, a => setA (k + 1) xs (a.setIfInBounds k x)
theorem foldS_at {p t : Nat} {fr : Nat × Nat} : ∀ (xs : List Value) (k : Nat) (w : World) (a : Array Value), w.heap[p]? = some (.cells a t fr) → (foldS p k xs w).heap[p]? = some (.cells (setA k xs a) t fr)
  | [], _, _, _, h => h
  | x :: xs, k, w, a, h => foldS_at xs (k + 1) _ _ (by rw [heapSet h])
theorem foldS_mod {S : List Nat} {p : Nat} {v : World} : ∀ (xs : List Value) (k : Nat) (w : World), Mod S v w → (p ∈ S ∨ v.heap.size ≤ p) → Mod S v (foldS p k xs w)
  | [], _, _, h, _ => h
  | x :: xs, k, w, h, hp => foldS_mod xs (k + 1) _ (h.set (p := ⟨p, k, none⟩) hp x) hp
/-- What there is in each state: tag, none, commit, yes, over. -/
def stsL : List Value := [.bool false, .bool false, .bool false, .bool false, .bool false, .bool false, .bool true, .bool false, .bool true, .bool false, .bool true, .bool false, .bool true, .bool false, .bool false, .bool false, .bool true, .bool false, .bool false, .bool false, .bool true, .bool false, .bool false, .bool false, .bool true, .bool true, .bool true, .bool false, .bool false, .bool true]
def stsV : Value := .agg #[.bool false, .bool false, .bool false, .bool false, .bool false, .bool false, .bool true, .bool false, .bool true, .bool false, .bool true, .bool false, .bool true, .bool false, .bool false, .bool false, .bool true, .bool false, .bool false, .bool false, .bool true, .bool false, .bool false, .bool false, .bool true, .bool true, .bool true, .bool false, .bool false, .bool true]
set_option maxRecDepth 20000 in
theorem box30 {w W : World} (h : (((((((((((((((((((((((((((((((w.alloc (.cells #[.bool false, .bool false, .bool false, .bool false, .bool false, .bool false, .bool false, .bool false, .bool false, .bool false, .bool false, .bool false, .bool false, .bool false, .bool false, .bool false, .bool false, .bool false, .bool false, .bool false, .bool false, .bool false, .bool false, .bool false, .bool false, .bool false, .bool false, .bool false, .bool false, .bool false] 122)).setCell ⟨w.heap.size, 0, none⟩ (.bool false)).setCell ⟨w.heap.size, 1, none⟩ (.bool false)).setCell ⟨w.heap.size, 2, none⟩ (.bool false)).setCell ⟨w.heap.size, 3, none⟩ (.bool false)).setCell ⟨w.heap.size, 4, none⟩ (.bool false)).setCell ⟨w.heap.size, 5, none⟩ (.bool false)).setCell ⟨w.heap.size, 6, none⟩ (.bool true)).setCell ⟨w.heap.size, 7, none⟩ (.bool false)).setCell ⟨w.heap.size, 8, none⟩ (.bool true)).setCell ⟨w.heap.size, 9, none⟩ (.bool false)).setCell ⟨w.heap.size, 10, none⟩ (.bool true)).setCell ⟨w.heap.size, 11, none⟩ (.bool false)).setCell ⟨w.heap.size, 12, none⟩ (.bool true)).setCell ⟨w.heap.size, 13, none⟩ (.bool false)).setCell ⟨w.heap.size, 14, none⟩ (.bool false)).setCell ⟨w.heap.size, 15, none⟩ (.bool false)).setCell ⟨w.heap.size, 16, none⟩ (.bool true)).setCell ⟨w.heap.size, 17, none⟩ (.bool false)).setCell ⟨w.heap.size, 18, none⟩ (.bool false)).setCell ⟨w.heap.size, 19, none⟩ (.bool false)).setCell ⟨w.heap.size, 20, none⟩ (.bool true)).setCell ⟨w.heap.size, 21, none⟩ (.bool false)).setCell ⟨w.heap.size, 22, none⟩ (.bool false)).setCell ⟨w.heap.size, 23, none⟩ (.bool false)).setCell ⟨w.heap.size, 24, none⟩ (.bool true)).setCell ⟨w.heap.size, 25, none⟩ (.bool true)).setCell ⟨w.heap.size, 26, none⟩ (.bool true)).setCell ⟨w.heap.size, 27, none⟩ (.bool false)).setCell ⟨w.heap.size, 28, none⟩ (.bool false)).setCell ⟨w.heap.size, 29, none⟩ (.bool true)) = W) : W.heap[w.heap.size]? = some (.cells #[.bool false, .bool false, .bool false, .bool false, .bool false, .bool false, .bool true, .bool false, .bool true, .bool false, .bool true, .bool false, .bool true, .bool false, .bool false, .bool false, .bool true, .bool false, .bool false, .bool false, .bool true, .bool false, .bool false, .bool false, .bool true, .bool true, .bool true, .bool false, .bool false, .bool true] 122 (0, 0)) ∧ Mod [] w W := by
  have e : W = foldS w.heap.size 0 stsL (w.alloc (.cells #[.bool false, .bool false, .bool false, .bool false, .bool false, .bool false, .bool false, .bool false, .bool false, .bool false, .bool false, .bool false, .bool false, .bool false, .bool false, .bool false, .bool false, .bool false, .bool false, .bool false, .bool false, .bool false, .bool false, .bool false, .bool false, .bool false, .bool false, .bool false, .bool false, .bool false] 122)) := by rw [← h]; rfl
  have h1 := foldS_at stsL 0 _ _ (heapNew (w := w) (o := .cells #[.bool false, .bool false, .bool false, .bool false, .bool false, .bool false, .bool false, .bool false, .bool false, .bool false, .bool false, .bool false, .bool false, .bool false, .bool false, .bool false, .bool false, .bool false, .bool false, .bool false, .bool false, .bool false, .bool false, .bool false, .bool false, .bool false, .bool false, .bool false, .bool false, .bool false] 122))
  have h2 := foldS_mod (p := w.heap.size) stsL 0 _ ((Mod.refl [] w).alloc (.cells #[.bool false, .bool false, .bool false, .bool false, .bool false, .bool false, .bool false, .bool false, .bool false, .bool false, .bool false, .bool false, .bool false, .bool false, .bool false, .bool false, .bool false, .bool false, .bool false, .bool false, .bool false, .bool false, .bool false, .bool false, .bool false, .bool false, .bool false, .bool false, .bool false, .bool false] 122)) (.inr (Nat.le_refl _))
  rw [← e] at h1 h2
  exact ⟨h1, h2⟩
set_option maxRecDepth 20000 in
theorem load30 {w : World} {p : Nat} {K : Value → World → Prop} (hh : w.heap[p]? = some (.cells #[.bool false, .bool false, .bool false, .bool false, .bool false, .bool false, .bool true, .bool false, .bool true, .bool false, .bool true, .bool false, .bool true, .bool false, .bool false, .bool false, .bool true, .bool false, .bool false, .bool false, .bool true, .bool false, .bool false, .bool false, .bool true, .bool true, .bool true, .bool false, .bool false, .bool true] 122 (0, 0))) (hK : K stsV w) : loadW TT 122 (.pointer (some ⟨p, 0, none⟩)) w K := by
  have c := fun o => cellOf (o := o) hh
  exact ⟨_, c 0, _, c 1, _, c 2, _, c 3, _, c 4, _, c 5, _, c 6, _, c 7, _, c 8, _, c 9, _, c 10, _, c 11, _, c 12, _, c 13, _, c 14, _, c 15, _, c 16, _, c 17, _, c 18, _, c 19, _, c 20, _, c 21, _, c 22, _, c 23, _, c 24, _, c 25, _, c 26, _, c 27, _, c 28, _, c 29, hK⟩
set_option maxRecDepth 20000 in
set_option maxHeartbeats 8000000 in
theorem pStates_cps (w : World) (R : Ending → World → Prop) (hR : ∀ w', Mod [] w w' → R (.returned stsV) w') : Calls Try.prog 73 #[] w R := by
  refine calls_go 4000 okT Try.func73 rfl (rs := [.cell 0 122]) rfl Try.ntmps73 (args := []) ?_
  simp (maxSteps := 1000000) (disch := first | omega | (simp only [sizeAlloc, sizeDrew, sizeSet, sizePut] <;> omega) | fail) only [GS, TT_eq, TTl, Nat.reduceAdd, Nat.reduceMul, Nat.reduceSub, Nat.reduceDiv, Nat.reduceMod, Nat.reducePow, Nat.reduceEqDiff, ↓reduceIte, reduceCtorEq, Int.reduceToNat, Int.reduceAdd, Int.reduceSub, Int.reduceMul]
  generalize hW : (((((((((((((((((((((((((((((((w.alloc (.cells #[.bool false, .bool false, .bool false, .bool false, .bool false, .bool false, .bool false, .bool false, .bool false, .bool false, .bool false, .bool false, .bool false, .bool false, .bool false, .bool false, .bool false, .bool false, .bool false, .bool false, .bool false, .bool false, .bool false, .bool false, .bool false, .bool false, .bool false, .bool false, .bool false, .bool false] 122)).setCell ⟨w.heap.size, 0, none⟩ (.bool false)).setCell ⟨w.heap.size, 1, none⟩ (.bool false)).setCell ⟨w.heap.size, 2, none⟩ (.bool false)).setCell ⟨w.heap.size, 3, none⟩ (.bool false)).setCell ⟨w.heap.size, 4, none⟩ (.bool false)).setCell ⟨w.heap.size, 5, none⟩ (.bool false)).setCell ⟨w.heap.size, 6, none⟩ (.bool true)).setCell ⟨w.heap.size, 7, none⟩ (.bool false)).setCell ⟨w.heap.size, 8, none⟩ (.bool true)).setCell ⟨w.heap.size, 9, none⟩ (.bool false)).setCell ⟨w.heap.size, 10, none⟩ (.bool true)).setCell ⟨w.heap.size, 11, none⟩ (.bool false)).setCell ⟨w.heap.size, 12, none⟩ (.bool true)).setCell ⟨w.heap.size, 13, none⟩ (.bool false)).setCell ⟨w.heap.size, 14, none⟩ (.bool false)).setCell ⟨w.heap.size, 15, none⟩ (.bool false)).setCell ⟨w.heap.size, 16, none⟩ (.bool true)).setCell ⟨w.heap.size, 17, none⟩ (.bool false)).setCell ⟨w.heap.size, 18, none⟩ (.bool false)).setCell ⟨w.heap.size, 19, none⟩ (.bool false)).setCell ⟨w.heap.size, 20, none⟩ (.bool true)).setCell ⟨w.heap.size, 21, none⟩ (.bool false)).setCell ⟨w.heap.size, 22, none⟩ (.bool false)).setCell ⟨w.heap.size, 23, none⟩ (.bool false)).setCell ⟨w.heap.size, 24, none⟩ (.bool true)).setCell ⟨w.heap.size, 25, none⟩ (.bool true)).setCell ⟨w.heap.size, 26, none⟩ (.bool true)).setCell ⟨w.heap.size, 27, none⟩ (.bool false)).setCell ⟨w.heap.size, 28, none⟩ (.bool false)).setCell ⟨w.heap.size, 29, none⟩ (.bool true)) = W
  obtain ⟨hA, hM⟩ := box30 hW
  clear hW
  refine load30 hA ?_
  exact hR _ hM
end Go.Proofs.Ytpcilobbohokcaa
