/-
  part: the reference's Own, ballot, May and Same (walks).
-/
import Derived.Test.YtpcilobbohokcaaPkpPar9
set_option linter.unusedSimpArgs false
set_option linter.unusedVariables false
namespace Go.Proofs.Ytpcilobbohokcaa
open Go Go.Wk Go.RowKit
attribute [local irreducible] go Hold
open Go.Lib
set_option maxRecDepth 20000 in
set_option maxHeartbeats 16000000 in
theorem rSame23_cps (p : Pt) (ms ns : Value) (w : World) (hl : p.mbs.length ≤ 1000000) (ha : Rd w 2 ms p.mbs.length (p.mbs.flatMap mbC)) (hb : Rd w 2 ns p.mbs.length (p.mbs.flatMap mbC)) (R : Ending → World → Prop) (hR : ∀ w', Mod [] w w' → R (.returned (.bool true)) w') :
    Calls Try.prog 28 #[ptV p ms, ptV p ns] w R := by
  have os1 : ms.oneCell' = true := by obtain ⟨a, c, e⟩ := ha.slice; rw [e]; rfl
  have os2 : ns.oneCell' = true := by obtain ⟨a, c, e⟩ := hb.slice; rw [e]; rfl
  obtain ⟨⟨xa, xb, xc⟩, aud, mbs, org, body, st, tag, sent⟩ := p
  unfold ptV ptC
  simp only at hl ha hb ⊢
  refine calls_go 4000 okT Try.func28 rfl (rs := [.tmp 4]) rfl Try.ntmps28 (args := [.agg #[.int .i64 xa, .int .i64 xb, .int .i64 xc, .int .i64 aud, ms, .int .i64 org, .string ⟨body.toArray⟩, .int .u8 st, .string ⟨tag.toArray⟩, .int .i64 sent], .agg #[.int .i64 xa, .int .i64 xb, .int .i64 xc, .int .i64 aud, ns, .int .i64 org, .string ⟨body.toArray⟩, .int .u8 st, .string ⟨tag.toArray⟩, .int .i64 sent]]) ?_
  simp (maxSteps := 1000000) (disch := first | omega | (simp only [sizeAlloc, sizeDrew, sizeSet, sizePut] <;> omega) | fail) only [GS, TT_eq, TTl, Nat.reduceAdd, Nat.reduceMul, Nat.reduceSub, Nat.reduceDiv, Nat.reduceMod, Nat.reducePow, Nat.reduceEqDiff, ↓reduceIte, reduceCtorEq, Int.reduceToNat, Int.reduceAdd, Int.reduceSub, Int.reduceMul, eq_self, os1, os2, cellsL_one os1, cellsL_one os2]
  generalize hW : (w.alloc (.cells #[.int .i64 xa, .int .i64 xb, .int .i64 xc, .int .i64 aud, ms, .int .i64 org, .string ⟨body.toArray⟩, .int .u8 st, .string ⟨tag.toArray⟩, .int .i64 sent] 64)).alloc (.cells #[.int .i64 xa, .int .i64 xb, .int .i64 xc, .int .i64 aud, ns, .int .i64 org, .string ⟨body.toArray⟩, .int .u8 st, .string ⟨tag.toArray⟩, .int .i64 sent] 64) = w1
  have hM0 : Mod [] w w1 := by subst hW; exact ((Mod.refl [] w).alloc _).alloc _
  clear hW
  refine ⟨fok50, SameM_cps ms ns mbs mbs _ _ hl (ha.mod hM0 (by simp)) (hb.mod hM0 (by simp)) fun w2 hM2 => .inl ⟨_, rfl, hold_ops okT (rs := [.tmp 4]) rfl ?_⟩⟩
  rw [decide_eq_true (rfl : mbs = mbs)]
  simp (maxSteps := 1000000) (disch := first | omega | (simp only [sizeAlloc, sizeDrew, sizeSet, sizePut] <;> omega) | fail) only [GS, TT_eq, TTl, Nat.reduceAdd, Nat.reduceMul, Nat.reduceSub, Nat.reduceDiv, Nat.reduceMod, Nat.reducePow, Nat.reduceEqDiff, ↓reduceIte, reduceCtorEq, Int.reduceToNat, Int.reduceAdd, Int.reduceSub, Int.reduceMul]
  exact hR _ (hM0.trans hM2 (by simp))
end Go.Proofs.Ytpcilobbohokcaa
