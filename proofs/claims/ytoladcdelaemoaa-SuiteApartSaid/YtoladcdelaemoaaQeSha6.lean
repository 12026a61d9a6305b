/-
  sha: the sum of a text (walk).
-/
import Derived.Test.YtoladcdelaemoaaQeSha5
set_option linter.unusedSimpArgs false
set_option linter.unusedVariables false
set_option maxRecDepth 20000
namespace Go.Proofs.Ytoladcdelaemoaa
open Go Go.Wk Go.RowKit
attribute [local irreducible] go Hold
/-- SHA-256 by a table. -/
def shF (kt : List Int) (s : List UInt8) : List UInt8 := sumF kt (putF kt st0 wt0 0 s).1 (putF kt st0 wt0 0 s).2 s.length
theorem takF_len (kt st wt : List Int) : (takF kt st wt).length = st.length := by
  unfold takF
  generalize rsL _ = r
  have : ∀ k, (upS st r k).length = st.length := by
    intro k
    induction k with
    | zero => rfl
    | succ k ih => rw [upS, List.length_set, ih]
  exact this 8
theorem putF_len (kt : List Int) : ∀ (s : List UInt8) (st wt : List Int) (n : Nat), (putF kt st wt n s).1.length = st.length
  | [], _, _, _ => rfl
  | c :: s, st, wt, n => by
    rw [putF, putF_len kt s]
    split
    · exact takF_len kt st _
    · rfl
theorem sumF_len (kt st wt : List Int) (n : Nat) (h : st.length = 8) : (sumF kt st wt n).length = 32 := by
  unfold sumF
  rw [outF_len, putF_len, h]
theorem shF_len (kt : List Int) (s : List UInt8) : (shF kt s).length = 32 := by
  unfold shF
  rw [sumF_len _ _ _ _ (by rw [putF_len]; rfl)]
theorem WB0 : WB wt0 := by unfold WB wt0; intro c hc; rw [List.mem_replicate] at hc; omega
set_option maxHeartbeats 2000000 in
theorem shaText_cps (kt : List Int) (s : List UInt8) (hs : s.length ≤ 1152921504606846976) (w : World) (hK : KTab w kt) (R : Ending → World → Prop) (hR : ∀ w', Mod [] w w' → R (.returned (.string ⟨(shF kt s).toArray⟩)) w') :
    Calls Try.prog 128 #[.string ⟨s.toArray⟩] w R := by
  refine calls_go 4000 okT Try.func128 rfl (rs := [.tmp 2]) rfl Try.ntmps128 (args := [.string ⟨s.toArray⟩]) ?_
  simp (maxSteps := 1000000) (disch := first | omega | (simp only [sizeAlloc, sizeDrew, sizeSet, sizePut] <;> omega) | fail) only [GS, TT_eq, TTl, Nat.reduceAdd, Nat.reduceMul, Nat.reduceSub, Nat.reduceDiv, Nat.reduceMod, Nat.reducePow, Nat.reduceEqDiff, ↓reduceIte, reduceCtorEq, Int.reduceToNat, Int.reduceAdd, Int.reduceSub, Int.reduceMul]
  refine ⟨fok133, shaNew_cps w _ fun h w1 hS1 hh hM1 => .inl ⟨_, rfl, hold_ops okT (rs := [.tmp 2]) rfl ?_⟩⟩
  simp (maxSteps := 1000000) (disch := first | omega | (simp only [sizeAlloc, sizeDrew, sizeSet, sizePut] <;> omega) | fail) only [GS, TT_eq, TTl, Nat.reduceAdd, Nat.reduceMul, Nat.reduceSub, Nat.reduceDiv, Nat.reduceMod, Nat.reducePow, Nat.reduceEqDiff, ↓reduceIte, reduceCtorEq, Int.reduceToNat, Int.reduceAdd, Int.reduceSub, Int.reduceMul]
  refine ⟨fok134, shaWrite_cps h st0 wt0 kt 0 s WB0 (by omega) w1 hS1 (hK.mod hM1 (by simp)) _ fun w2 hS2 hB2 hM2 => .inl ⟨_, rfl, hold_ops okT (rs := [.tmp 2]) rfl ?_⟩⟩
  rw [Nat.zero_add] at hS2
  have hM02 : Mod [] w w2 := hM1.trans hM2 (by intro y hy; simp only [List.mem_singleton] at hy; subst hy; exact .inr hh)
  simp (maxSteps := 1000000) (disch := first | omega | (simp only [sizeAlloc, sizeDrew, sizeSet, sizePut] <;> omega) | fail) only [GS, TT_eq, TTl, Nat.reduceAdd, Nat.reduceMul, Nat.reduceSub, Nat.reduceDiv, Nat.reduceMod, Nat.reducePow, Nat.reduceEqDiff, ↓reduceIte, reduceCtorEq, Int.reduceToNat, Int.reduceAdd, Int.reduceSub, Int.reduceMul]
  refine ⟨fok135, shaSum_cps h _ _ kt s.length hB2 hs w2 hS2 (hK.mod hM02 (by simp)) _ fun w3 hM3 => .inl ⟨_, rfl, hold_ops okT (rs := [.tmp 2]) rfl ?_⟩⟩
  simp (maxSteps := 1000000) (disch := first | omega | (simp only [sizeAlloc, sizeDrew, sizeSet, sizePut] <;> omega) | fail) only [GS, TT_eq, TTl, Nat.reduceAdd, Nat.reduceMul, Nat.reduceSub, Nat.reduceDiv, Nat.reduceMod, Nat.reducePow, Nat.reduceEqDiff, ↓reduceIte, reduceCtorEq, Int.reduceToNat, Int.reduceAdd, Int.reduceSub, Int.reduceMul]
  exact hR _ (hM02.trans hM3 (by simp))
end Go.Proofs.Ytoladcdelaemoaa
