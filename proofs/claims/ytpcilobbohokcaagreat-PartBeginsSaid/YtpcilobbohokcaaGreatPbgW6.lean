/-
  chirographref12.Same (walk). chirographlaw12: long, own (walks). chirographlaw12.alive (walk).
-/
import Derived.Test.YtpcilobbohokcaaGreatPbgW4
import Derived.Test.YtpcilobbohokcaaGreatPbgW2
import Derived.Test.YtpcilobbohokcaaGreatPbgW5
set_option linter.unusedSimpArgs false
set_option linter.unusedVariables false
set_option maxRecDepth 20000
namespace Go.Proofs.YtpcilobbohokcaaGreat
open Go Go.Wk Go.RowKit
attribute [local irreducible] go Hold
open Go.Lib
/-- The same message. -/
def SameP (m n : Msg) : Prop := m.k = n.k ∧ m.tx = n.tx ∧ m.aud = n.aud ∧ m.mbs = n.mbs ∧ m.body = n.body ∧ m.yes = n.yes ∧ m.tag = n.tag
instance (m n : Msg) : Decidable (SameP m n) := inferInstanceAs (Decidable (_ ∧ _))
set_option maxRecDepth 20000 in
set_option maxHeartbeats 16000000 in
theorem Same12_cps (m n : Msg) (sa sb : Value) (w : World) (R : Ending → World → Prop) (hl : m.mbs.length ≤ 1000000) (ha : Rd w 2 sa m.mbs.length (m.mbs.flatMap mbC)) (hb : Rd w 2 sb n.mbs.length (n.mbs.flatMap mbC))
    (hR : ∀ w', Mod [] w w' → R (.returned (.bool (decide (SameP m n)))) w') : Calls Tryz.prog 21 #[msgV m sa, msgV n sb] w R := by
  have hR2 : ∀ b : Bool, (b = true ↔ SameP m n) → ∀ w', Mod [] w w' → R (.returned (.bool b)) w' := fun b hb w' hM => by
    have : b = decide (SameP m n) := by
      by_cases h : SameP m n
      · rw [decide_eq_true h]; exact hb.2 h
      · rw [decide_eq_false h]; cases b
        · rfl
        · exact absurd (hb.1 rfl) h
    rw [this]; exact hR w' hM
  clear hR
  obtain ⟨k, ⟨a, b, c⟩, aud, mbs, body, yes, tag⟩ := m
  obtain ⟨k2, ⟨a2, b2, c2⟩, aud2, mbs2, body2, yes2, tag2⟩ := n
  unfold msgV msgC
  simp only at hl ha hb ⊢
  have hbn : ∀ x y : Bool, bnd x (bnd y false) = false := by decide
  have hbm : ∀ x : Bool, bnd x false = false := by decide
  refine calls_go 4000 okT Tryz.func21 rfl (rs := [.tmp 4]) rfl Tryz.ntmps21 (args := [.agg #[.int .u8 k, .int .i64 a, .int .i64 b, .int .i64 c, .int .i64 aud, sa, .string ⟨body.toArray⟩, .bool yes, .string ⟨tag.toArray⟩], .agg #[.int .u8 k2, .int .i64 a2, .int .i64 b2, .int .i64 c2, .int .i64 aud2, sb, .string ⟨body2.toArray⟩, .bool yes2, .string ⟨tag2.toArray⟩]]) ?_
  simp (maxSteps := 1000000) (disch := first | omega | (simp only [sizeAlloc, sizeDrew, sizeSet, sizePut] <;> omega) | fail) only [GS, TT_eq, TTl, Nat.reduceAdd, Nat.reduceMul, Nat.reduceSub, Nat.reduceDiv, Nat.reduceMod, Nat.reducePow, Nat.reduceEqDiff, ↓reduceIte, reduceCtorEq, Int.reduceToNat, Int.reduceAdd, Int.reduceSub, Int.reduceMul]
  have hM0 := ((Mod.refl [] w).alloc (.cells #[.int .u8 k, .int .i64 a, .int .i64 b, .int .i64 c, .int .i64 aud, sa, .string ⟨body.toArray⟩, .bool yes, .string ⟨tag.toArray⟩] 35)).alloc (.cells #[.int .u8 k2, .int .i64 a2, .int .i64 b2, .int .i64 c2, .int .i64 aud2, sb, .string ⟨body2.toArray⟩, .bool yes2, .string ⟨tag2.toArray⟩] 35)
  have hA := heapAlloc (o' := (.cells #[.int .u8 k2, .int .i64 a2, .int .i64 b2, .int .i64 c2, .int .i64 aud2, sb, .string ⟨body2.toArray⟩, .bool yes2, .string ⟨tag2.toArray⟩] 35)) (heapNew (w := w) (o := (.cells #[.int .u8 k, .int .i64 a, .int .i64 b, .int .i64 c, .int .i64 aud, sa, .string ⟨body.toArray⟩, .bool yes, .string ⟨tag.toArray⟩] 35)))
  have hB := heapNew (w := w.alloc (.cells #[.int .u8 k, .int .i64 a, .int .i64 b, .int .i64 c, .int .i64 aud, sa, .string ⟨body.toArray⟩, .bool yes, .string ⟨tag.toArray⟩] 35)) (o := (.cells #[.int .u8 k2, .int .i64 a2, .int .i64 b2, .int .i64 c2, .int .i64 aud2, sb, .string ⟨body2.toArray⟩, .bool yes2, .string ⟨tag2.toArray⟩] 35))
  rw [sizeAlloc] at hB
  generalize (w.alloc (.cells #[.int .u8 k, .int .i64 a, .int .i64 b, .int .i64 c, .int .i64 aud, sa, .string ⟨body.toArray⟩, .bool yes, .string ⟨tag.toArray⟩] 35)).alloc (.cells #[.int .u8 k2, .int .i64 a2, .int .i64 b2, .int .i64 c2, .int .i64 aud2, sb, .string ⟨body2.toArray⟩, .bool yes2, .string ⟨tag2.toArray⟩] 35) = w1 at hM0 hA hB ⊢
  generalize hn : w.heap.size = n at *
  have cA := fun o => cellOf (o := o) hA
  have cB := fun o => cellOf (o := o) hB
  by_cases h_k : k = k2
  rotate_left
  · simp (maxSteps := 1000000) (disch := first | omega | (simp only [sizeAlloc, sizeDrew, sizeSet, sizePut] <;> omega) | fail) only [GS, TT_eq, TTl, Nat.reduceAdd, Nat.reduceMul, Nat.reduceSub, Nat.reduceDiv, Nat.reduceMod, Nat.reducePow, Nat.reduceEqDiff, ↓reduceIte, reduceCtorEq, Int.reduceToNat, Int.reduceAdd, Int.reduceSub, Int.reduceMul, cA, cB, h_k]
    exact hR2 false ⟨fun h => by simp at h, fun e => absurd (e.1) h_k⟩ _ hM0
  subst h_k
  by_cases h_a : a = a2
  rotate_left
  · simp (maxSteps := 1000000) (disch := first | omega | (simp only [sizeAlloc, sizeDrew, sizeSet, sizePut] <;> omega) | fail) only [GS, TT_eq, TTl, Nat.reduceAdd, Nat.reduceMul, Nat.reduceSub, Nat.reduceDiv, Nat.reduceMod, Nat.reducePow, Nat.reduceEqDiff, ↓reduceIte, reduceCtorEq, Int.reduceToNat, Int.reduceAdd, Int.reduceSub, Int.reduceMul, cA, cB, h_a, eq_self]
    exact hR2 false ⟨fun h => by simp at h, fun e => absurd (congrArg (·.1) e.2.1) h_a⟩ _ hM0
  subst h_a
  by_cases h_b : b = b2
  rotate_left
  · simp (maxSteps := 1000000) (disch := first | omega | (simp only [sizeAlloc, sizeDrew, sizeSet, sizePut] <;> omega) | fail) only [GS, TT_eq, TTl, Nat.reduceAdd, Nat.reduceMul, Nat.reduceSub, Nat.reduceDiv, Nat.reduceMod, Nat.reducePow, Nat.reduceEqDiff, ↓reduceIte, reduceCtorEq, Int.reduceToNat, Int.reduceAdd, Int.reduceSub, Int.reduceMul, cA, cB, h_b, eq_self]
    exact hR2 false ⟨fun h => by simp at h, fun e => absurd (congrArg (·.2.1) e.2.1) h_b⟩ _ hM0
  subst h_b
  by_cases h_c : c = c2
  rotate_left
  · simp (maxSteps := 1000000) (disch := first | omega | (simp only [sizeAlloc, sizeDrew, sizeSet, sizePut] <;> omega) | fail) only [GS, TT_eq, TTl, Nat.reduceAdd, Nat.reduceMul, Nat.reduceSub, Nat.reduceDiv, Nat.reduceMod, Nat.reducePow, Nat.reduceEqDiff, ↓reduceIte, reduceCtorEq, Int.reduceToNat, Int.reduceAdd, Int.reduceSub, Int.reduceMul, cA, cB, h_c, eq_self]
    exact hR2 false ⟨fun h => by simp at h, fun e => absurd (congrArg (·.2.2) e.2.1) h_c⟩ _ hM0
  subst h_c
  by_cases h_aud : aud = aud2
  rotate_left
  · simp (maxSteps := 1000000) (disch := first | omega | (simp only [sizeAlloc, sizeDrew, sizeSet, sizePut] <;> omega) | fail) only [GS, TT_eq, TTl, Nat.reduceAdd, Nat.reduceMul, Nat.reduceSub, Nat.reduceDiv, Nat.reduceMod, Nat.reducePow, Nat.reduceEqDiff, ↓reduceIte, reduceCtorEq, Int.reduceToNat, Int.reduceAdd, Int.reduceSub, Int.reduceMul, cA, cB, h_aud, eq_self]
    exact hR2 false ⟨fun h => by simp at h, fun e => absurd (e.2.2.1) h_aud⟩ _ hM0
  subst h_aud
  simp (maxSteps := 1000000) (disch := first | omega | (simp only [sizeAlloc, sizeDrew, sizeSet, sizePut] <;> omega) | fail) only [GS, TT_eq, TTl, Nat.reduceAdd, Nat.reduceMul, Nat.reduceSub, Nat.reduceDiv, Nat.reduceMod, Nat.reducePow, Nat.reduceEqDiff, ↓reduceIte, reduceCtorEq, Int.reduceToNat, Int.reduceAdd, Int.reduceSub, Int.reduceMul, cA, cB, eq_self]
  refine ⟨fok50, SameM_cps sa sb mbs mbs2 _ _ hl (ha.mod hM0 (by simp)) (hb.mod hM0 (by simp)) fun w2 hM2 => .inl ⟨_, rfl, hold_ops okT (rs := [.tmp 4]) rfl ?_⟩⟩
  have hA2 := hM2.get hA (by simp)
  have hB2 := hM2.get hB (by simp)
  have hM02 := hM0.trans hM2 (by simp)
  have dA := fun o => cellOf (o := o) hA2
  have dB := fun o => cellOf (o := o) hB2
  by_cases hm : mbs = mbs2
  rotate_left
  · rw [decide_eq_false hm]
    have hF := hR2 false ⟨fun h => by simp at h, fun e => absurd e.2.2.2.1 hm⟩ _ hM02
    simp (maxSteps := 1000000) (disch := first | omega | (simp only [sizeAlloc, sizeDrew, sizeSet, sizePut] <;> omega) | fail) only [GS, TT_eq, TTl, Nat.reduceAdd, Nat.reduceMul, Nat.reduceSub, Nat.reduceDiv, Nat.reduceMod, Nat.reducePow, Nat.reduceEqDiff, ↓reduceIte, reduceCtorEq, Int.reduceToNat, Int.reduceAdd, Int.reduceSub, Int.reduceMul]
    exact hF
  rw [decide_eq_true hm]
  by_cases hbd : body = body2
  rotate_left
  · have hF := hR2 false ⟨fun h => by simp at h, fun e => absurd e.2.2.2.2.1 hbd⟩ _ hM02
    simp (maxSteps := 1000000) (disch := first | omega | (simp only [sizeAlloc, sizeDrew, sizeSet, sizePut] <;> omega) | fail) only [GS, TT_eq, TTl, Nat.reduceAdd, Nat.reduceMul, Nat.reduceSub, Nat.reduceDiv, Nat.reduceMod, Nat.reducePow, Nat.reduceEqDiff, ↓reduceIte, reduceCtorEq, Int.reduceToNat, Int.reduceAdd, Int.reduceSub, Int.reduceMul, dA, dB, hbd]
    exact hF
  subst hbd
  by_cases hy : yes = yes2
  rotate_left
  · have hF := hR2 false ⟨fun h => by simp at h, fun e => absurd e.2.2.2.2.2.1 hy⟩ _ hM02
    have hy2 : beq2 yes yes2 = false := by revert hy; cases yes <;> cases yes2 <;> simp [beq2, bnot]
    simp (maxSteps := 1000000) (disch := first | omega | (simp only [sizeAlloc, sizeDrew, sizeSet, sizePut] <;> omega) | fail) only [GS, TT_eq, TTl, Nat.reduceAdd, Nat.reduceMul, Nat.reduceSub, Nat.reduceDiv, Nat.reduceMod, Nat.reducePow, Nat.reduceEqDiff, ↓reduceIte, reduceCtorEq, Int.reduceToNat, Int.reduceAdd, Int.reduceSub, Int.reduceMul, dA, dB, hy2]
    exact hF
  subst hy
  have hy2 : beq2 yes yes = true := by cases yes <;> rfl
  by_cases ht : tag = tag2
  rotate_left
  · have hF := hR2 false ⟨fun h => by simp at h, fun e => absurd e.2.2.2.2.2.2 ht⟩ _ hM02
    simp (maxSteps := 1000000) (disch := first | omega | (simp only [sizeAlloc, sizeDrew, sizeSet, sizePut] <;> omega) | fail) only [GS, TT_eq, TTl, Nat.reduceAdd, Nat.reduceMul, Nat.reduceSub, Nat.reduceDiv, Nat.reduceMod, Nat.reducePow, Nat.reduceEqDiff, ↓reduceIte, reduceCtorEq, Int.reduceToNat, Int.reduceAdd, Int.reduceSub, Int.reduceMul, dA, dB, ht, hy2, eq_self]
    exact hF
  subst ht
  simp (maxSteps := 1000000) (disch := first | omega | (simp only [sizeAlloc, sizeDrew, sizeSet, sizePut] <;> omega) | fail) only [GS, TT_eq, TTl, Nat.reduceAdd, Nat.reduceMul, Nat.reduceSub, Nat.reduceDiv, Nat.reduceMod, Nat.reducePow, Nat.reduceEqDiff, ↓reduceIte, reduceCtorEq, Int.reduceToNat, Int.reduceAdd, Int.reduceSub, Int.reduceMul, dA, dB, hy2, eq_self]
  exact hR2 true ⟨fun _ => ⟨rfl, rfl, rfl, hm, rfl, rfl, rfl⟩, fun _ => rfl⟩ _ hM02
end Go.Proofs.YtpcilobbohokcaaGreat
set_option linter.unusedSimpArgs false
set_option linter.unusedVariables false
set_option maxRecDepth 20000
namespace Go.Proofs.YtpcilobbohokcaaGreat
open Go Go.Wk Go.RowKit
attribute [local irreducible] go Hold
open Go.Lib
end Go.Proofs.YtpcilobbohokcaaGreat
set_option linter.unusedSimpArgs false
set_option linter.unusedVariables false
set_option maxRecDepth 20000
namespace Go.Proofs.YtpcilobbohokcaaGreat
open Go Go.Wk Go.RowKit
attribute [local irreducible] go Hold
open Go.Lib
end Go.Proofs.YtpcilobbohokcaaGreat
