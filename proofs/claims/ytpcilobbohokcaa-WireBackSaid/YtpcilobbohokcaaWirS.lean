/-
  chirographref12: SameMembers, Same (walks).
-/
import Derived.Test.YtpcilobbohokcaaWirM
set_option linter.unusedSimpArgs false
set_option linter.unusedVariables false
namespace Go.Proofs.Ytpcilobbohokcaa
open Go Go.Wk Go.RowKit
attribute [local irreducible] go Hold
open Go.Lib
set_option maxRecDepth 20000 in
set_option maxHeartbeats 8000000 in
theorem SameM_cps (sa sb : Value) (xs ys : List Mb) (w : World) (R : Ending → World → Prop) (hx : xs.length ≤ 1000000) (ha : Rd w 2 sa xs.length (xs.flatMap mbC)) (hb : Rd w 2 sb ys.length (ys.flatMap mbC))
    (hR : ∀ w', Mod [] w w' → R (.returned (.bool (decide (xs = ys)))) w') : Calls Try.prog 50 #[sa, sb] w R := by
  by_cases hl : xs.length = ys.length
  · obtain ⟨a, ca, rfl⟩ := ha.slice
    obtain ⟨b, cb, rfl⟩ := hb.slice
    refine calls_go 4000 okT Try.func50 rfl (rs := [.tmp 4]) rfl Try.ntmps50 (args := [.slice a xs.length ca, .slice b ys.length cb]) ?_
    simp (config := { maxSteps := 1000000 }) (disch := first | omega | (simp only [sizeAlloc, sizeDrew, sizeSet, sizePut] <;> omega) | fail) only [GS1, GS2, GS3, GS4, GS5, GS6, GS7, GS8, GS9, GS10, GS11, TT_eq, TTl, Nat.reduceAdd, Nat.reduceMul, Nat.reduceSub, Nat.reduceDiv, Nat.reduceMod, Nat.reducePow, Nat.reduceEqDiff, ↓reduceIte, reduceCtorEq, true_and, and_true, and_self, false_and, and_false, Int.reduceToNat, Int.reduceAdd, Int.reduceSub, Int.reduceMul, cond_true, cond_false, List.toList_toArray, Option.map_some, Option.map_none, Option.some.injEq, List.cons_append, List.nil_append, List.length_cons, List.length_nil, List.getD_cons_zero, List.getD_cons_succ]
    refine hold_loop okT (rs := [.tmp 4]) rfl [5] [4, 11, 12, 13, 14, 15, 16, 17, 18, 19, 20, 21, 22, 23, 24, 25] (fun vs w' => ∃ k : Nat, k ≤ xs.length ∧ vs = [.int .i64 k] ∧ Mod [] w w' ∧ xs.take k = ys.take k) (fun vs _ => match vs with | [.int _ i] => xs.length - i.toNat | _ => 0) (by kernel_rfl) ⟨0, by omega, rfl, Mod.refl _ _, by simp⟩ ?_
    rintro vs w' J ⟨k, hk, rfl, hM, ht⟩
    by_cases hlt : k < xs.length
    · obtain ⟨b1, o1, c1, e1, _, g1⟩ := (ha.mod hM (by simp)).at (by omega) (by omega)
      obtain ⟨b2, o2, c2, e2, _, g2⟩ := (hb.mod hM (by simp)).at (by omega) (by omega)
      rw [Value.slice.injEq] at e1 e2
      obtain ⟨rfl, -, -⟩ := e1
      obtain ⟨rfl, -, -⟩ := e2
      have hf1 := fun j hj => flat_get mbC 2 mbC_len xs k hlt j hj
      have hf2 := fun j hj => flat_get mbC 2 mbC_len ys k (hl ▸ hlt) j hj
      have ht1 := List.take_succ_eq_append_getElem hlt
      have ht2 := List.take_succ_eq_append_getElem (hl ▸ hlt : k < ys.length)
      have hm1 := List.getElem?_eq_getElem hlt
      have hm2 := List.getElem?_eq_getElem (hl ▸ hlt : k < ys.length)
      generalize xs[k] = m1 at hf1 ht1 hm1
      generalize ys[k]'(hl ▸ hlt) = m2 at hf2 ht2 hm2
      obtain ⟨p1, q1⟩ := m1
      obtain ⟨p2, q2⟩ := m2
      have d0 : w'.cell? ⟨b1, o1 + k * 2, none⟩ = some (.int .i64 p1) := by rw [← g1 (k * 2) _ (hf1 0 (by omega))]
      have d1 : w'.cell? ⟨b1, o1 + k * 2 + 1, none⟩ = some (.string ⟨q1.toArray⟩) := by rw [← g1 (k * 2 + 1) _ (hf1 1 (by omega))]; rfl
      have d2 : w'.cell? ⟨b2, o2 + k * 2, none⟩ = some (.int .i64 p2) := by rw [← g2 (k * 2) _ (hf2 0 (by omega))]
      have d3 : w'.cell? ⟨b2, o2 + k * 2 + 1, none⟩ = some (.string ⟨q2.toArray⟩) := by rw [← g2 (k * 2 + 1) _ (hf2 1 (by omega))]; rfl
      clear hf1 hf2 g1 g2
      by_cases hp : p1 = p2
      · by_cases hq : q1 = q2
        · subst hp hq
          have he1 : bnd (decide (p1 = p1)) (bnd (decide (q1 = q1)) true) = true := by simp [bnd]
          simp (config := { maxSteps := 1000000 }) (disch := first | omega | (simp only [sizeAlloc, sizeDrew, sizeSet, sizePut] <;> omega) | fail) only [GS1, GS2, GS3, GS4, GS5, GS6, GS7, GS8, GS9, GS10, GS11, TT_eq, TTl, Nat.reduceAdd, Nat.reduceMul, Nat.reduceSub, Nat.reduceDiv, Nat.reduceMod, Nat.reducePow, Nat.reduceEqDiff, ↓reduceIte, reduceCtorEq, true_and, and_true, and_self, false_and, and_false, Int.reduceToNat, Int.reduceAdd, Int.reduceSub, Int.reduceMul, cond_true, cond_false, List.toList_toArray, Option.map_some, Option.map_none, Option.some.injEq, List.cons_append, List.nil_append, List.length_cons, List.length_nil, List.getD_cons_zero, List.getD_cons_succ, d0, d1, d2, d3]
          refine ⟨by kernel_rfl, fun m => ?_⟩
          exact ⟨⟨k + 1, by omega, rfl, hM.drewN m, by rw [ht1, ht2, ht]⟩, by omega⟩
        · subst hp
          simp (config := { maxSteps := 1000000 }) (disch := first | omega | (simp only [sizeAlloc, sizeDrew, sizeSet, sizePut] <;> omega) | fail) only [GS1, GS2, GS3, GS4, GS5, GS6, GS7, GS8, GS9, GS10, GS11, TT_eq, TTl, Nat.reduceAdd, Nat.reduceMul, Nat.reduceSub, Nat.reduceDiv, Nat.reduceMod, Nat.reducePow, Nat.reduceEqDiff, ↓reduceIte, reduceCtorEq, true_and, and_true, and_self, false_and, and_false, Int.reduceToNat, Int.reduceAdd, Int.reduceSub, Int.reduceMul, cond_true, cond_false, List.toList_toArray, Option.map_some, Option.map_none, Option.some.injEq, List.cons_append, List.nil_append, List.length_cons, List.length_nil, List.getD_cons_zero, List.getD_cons_succ, d0, d1, d2, d3, hq]
          rw [decide_eq_false (fun e => hq (by rw [e, hm2, Option.some.injEq, Prod.mk.injEq] at hm1; exact hm1.2.symm))] at hR
          exact ⟨by kernel_rfl, fun m => hR _ (hM.drewN m)⟩
      · simp (config := { maxSteps := 1000000 }) (disch := first | omega | (simp only [sizeAlloc, sizeDrew, sizeSet, sizePut] <;> omega) | fail) only [GS1, GS2, GS3, GS4, GS5, GS6, GS7, GS8, GS9, GS10, GS11, TT_eq, TTl, Nat.reduceAdd, Nat.reduceMul, Nat.reduceSub, Nat.reduceDiv, Nat.reduceMod, Nat.reducePow, Nat.reduceEqDiff, ↓reduceIte, reduceCtorEq, true_and, and_true, and_self, false_and, and_false, Int.reduceToNat, Int.reduceAdd, Int.reduceSub, Int.reduceMul, cond_true, cond_false, List.toList_toArray, Option.map_some, Option.map_none, Option.some.injEq, List.cons_append, List.nil_append, List.length_cons, List.length_nil, List.getD_cons_zero, List.getD_cons_succ, d0, d1, d2, d3, hp]
        rw [decide_eq_false (fun e => hp (by rw [e, hm2, Option.some.injEq, Prod.mk.injEq] at hm1; exact hm1.1.symm))] at hR
        exact ⟨by kernel_rfl, fun m => hR _ (hM.drewN m)⟩
    · have e : k = xs.length := by omega
      subst e
      have e2 : xs = ys := by rw [List.take_length] at ht; rw [ht, hl, List.take_length]
      simp (config := { maxSteps := 1000000 }) (disch := first | omega | (simp only [sizeAlloc, sizeDrew, sizeSet, sizePut] <;> omega) | fail) only [GS1, GS2, GS3, GS4, GS5, GS6, GS7, GS8, GS9, GS10, GS11, TT_eq, TTl, Nat.reduceAdd, Nat.reduceMul, Nat.reduceSub, Nat.reduceDiv, Nat.reduceMod, Nat.reducePow, Nat.reduceEqDiff, ↓reduceIte, reduceCtorEq, true_and, and_true, and_self, false_and, and_false, Int.reduceToNat, Int.reduceAdd, Int.reduceSub, Int.reduceMul, cond_true, cond_false, List.toList_toArray, Option.map_some, Option.map_none, Option.some.injEq, List.cons_append, List.nil_append, List.length_cons, List.length_nil, List.getD_cons_zero, List.getD_cons_succ]
      rw [decide_eq_true e2] at hR
      exact hR _ hM
  · obtain ⟨a, ca, rfl⟩ := ha.slice
    obtain ⟨b, cb, rfl⟩ := hb.slice
    refine calls_go 4000 okT Try.func50 rfl (rs := [.tmp 4]) rfl Try.ntmps50 (args := [.slice a xs.length ca, .slice b ys.length cb]) ?_
    simp (config := { maxSteps := 1000000 }) (disch := first | omega | (simp only [sizeAlloc, sizeDrew, sizeSet, sizePut] <;> omega) | fail) only [GS1, GS2, GS3, GS4, GS5, GS6, GS7, GS8, GS9, GS10, GS11, TT_eq, TTl, Nat.reduceAdd, Nat.reduceMul, Nat.reduceSub, Nat.reduceDiv, Nat.reduceMod, Nat.reducePow, Nat.reduceEqDiff, ↓reduceIte, reduceCtorEq, true_and, and_true, and_self, false_and, and_false, Int.reduceToNat, Int.reduceAdd, Int.reduceSub, Int.reduceMul, cond_true, cond_false, List.toList_toArray, Option.map_some, Option.map_none, Option.some.injEq, List.cons_append, List.nil_append, List.length_cons, List.length_nil, List.getD_cons_zero, List.getD_cons_succ]
    rw [decide_eq_false (fun e => hl (by rw [e]))] at hR
    exact hR _ (Mod.refl _ _)
/-- The same message. -/
def SameP (m n : Msg) : Prop := m.k = n.k ∧ m.tx = n.tx ∧ m.aud = n.aud ∧ m.mbs = n.mbs ∧ m.body = n.body ∧ m.yes = n.yes ∧ m.tag = n.tag
instance (m n : Msg) : Decidable (SameP m n) := inferInstanceAs (Decidable (_ ∧ _))
theorem same_iff (m n : Msg) : SameP m n ↔ m = n := by
  obtain ⟨k, tx, aud, mbs, body, yes, tag⟩ := m
  obtain ⟨k2, tx2, aud2, mbs2, body2, yes2, tag2⟩ := n
  unfold SameP
  simp only [Msg.mk.injEq]
set_option maxRecDepth 20000 in
set_option maxHeartbeats 16000000 in
theorem Same12_cps (m n : Msg) (sa sb : Value) (w : World) (R : Ending → World → Prop) (hl : m.mbs.length ≤ 1000000) (ha : Rd w 2 sa m.mbs.length (m.mbs.flatMap mbC)) (hb : Rd w 2 sb n.mbs.length (n.mbs.flatMap mbC))
    (hR : ∀ w', Mod [] w w' → R (.returned (.bool (decide (SameP m n)))) w') : Calls Try.prog 20 #[msgV m sa, msgV n sb] w R := by
  have hR2 : ∀ b : Bool, (b = true ↔ SameP m n) → ∀ w', Mod [] w w' → R (.returned (.bool b)) w' := fun b hb w' hM => by
    have : b = decide (SameP m n) := by
      by_cases h : SameP m n
      · rw [decide_eq_true h]; exact hb.2 h
      · rw [decide_eq_false h]; cases b
        · rfl
        · exact absurd (hb.1 rfl) h
    rw [this]; exact hR w' hM
  clear hR
  obtain ⟨k, ⟨a, b, c⟩, aud, mbs, body, yes, tag⟩ := m
  obtain ⟨k2, ⟨a2, b2, c2⟩, aud2, mbs2, body2, yes2, tag2⟩ := n
  unfold msgV msgC
  simp only at hl ha hb ⊢
  have hbn : ∀ x y : Bool, bnd x (bnd y false) = false := by decide
  have hbm : ∀ x : Bool, bnd x false = false := by decide
  refine calls_go 4000 okT Try.func20 rfl (rs := [.tmp 4]) rfl Try.ntmps20 (args := [.agg #[.int .u8 k, .int .i64 a, .int .i64 b, .int .i64 c, .int .i64 aud, sa, .string ⟨body.toArray⟩, .bool yes, .string ⟨tag.toArray⟩], .agg #[.int .u8 k2, .int .i64 a2, .int .i64 b2, .int .i64 c2, .int .i64 aud2, sb, .string ⟨body2.toArray⟩, .bool yes2, .string ⟨tag2.toArray⟩]]) ?_
  simp (config := { maxSteps := 1000000 }) (disch := first | omega | (simp only [sizeAlloc, sizeDrew, sizeSet, sizePut] <;> omega) | fail) only [GS1, GS2, GS3, GS4, GS5, GS6, GS7, GS8, GS9, GS10, GS11, TT_eq, TTl, Nat.reduceAdd, Nat.reduceMul, Nat.reduceSub, Nat.reduceDiv, Nat.reduceMod, Nat.reducePow, Nat.reduceEqDiff, ↓reduceIte, reduceCtorEq, true_and, and_true, and_self, false_and, and_false, Int.reduceToNat, Int.reduceAdd, Int.reduceSub, Int.reduceMul, cond_true, cond_false, List.toList_toArray, Option.map_some, Option.map_none, Option.some.injEq, List.cons_append, List.nil_append, List.length_cons, List.length_nil, List.getD_cons_zero, List.getD_cons_succ]
  have hM0 := ((Mod.refl [] w).alloc (.cells #[.int .u8 k, .int .i64 a, .int .i64 b, .int .i64 c, .int .i64 aud, sa, .string ⟨body.toArray⟩, .bool yes, .string ⟨tag.toArray⟩] 42)).alloc (.cells #[.int .u8 k2, .int .i64 a2, .int .i64 b2, .int .i64 c2, .int .i64 aud2, sb, .string ⟨body2.toArray⟩, .bool yes2, .string ⟨tag2.toArray⟩] 42)
  have hA := heapAlloc (o' := (.cells #[.int .u8 k2, .int .i64 a2, .int .i64 b2, .int .i64 c2, .int .i64 aud2, sb, .string ⟨body2.toArray⟩, .bool yes2, .string ⟨tag2.toArray⟩] 42)) (heapNew (w := w) (o := (.cells #[.int .u8 k, .int .i64 a, .int .i64 b, .int .i64 c, .int .i64 aud, sa, .string ⟨body.toArray⟩, .bool yes, .string ⟨tag.toArray⟩] 42)))
  have hB := heapNew (w := w.alloc (.cells #[.int .u8 k, .int .i64 a, .int .i64 b, .int .i64 c, .int .i64 aud, sa, .string ⟨body.toArray⟩, .bool yes, .string ⟨tag.toArray⟩] 42)) (o := (.cells #[.int .u8 k2, .int .i64 a2, .int .i64 b2, .int .i64 c2, .int .i64 aud2, sb, .string ⟨body2.toArray⟩, .bool yes2, .string ⟨tag2.toArray⟩] 42))
  rw [sizeAlloc] at hB
  generalize (w.alloc (.cells #[.int .u8 k, .int .i64 a, .int .i64 b, .int .i64 c, .int .i64 aud, sa, .string ⟨body.toArray⟩, .bool yes, .string ⟨tag.toArray⟩] 42)).alloc (.cells #[.int .u8 k2, .int .i64 a2, .int .i64 b2, .int .i64 c2, .int .i64 aud2, sb, .string ⟨body2.toArray⟩, .bool yes2, .string ⟨tag2.toArray⟩] 42) = w1 at hM0 hA hB ⊢
  generalize hn : w.heap.size = n at *
  have cA := fun o => cellOf (o := o) hA
  have cB := fun o => cellOf (o := o) hB
  by_cases h_k : k = k2
  rotate_left
  · simp (config := { maxSteps := 1000000 }) (disch := first | omega | (simp only [sizeAlloc, sizeDrew, sizeSet, sizePut] <;> omega) | fail) only [GS1, GS2, GS3, GS4, GS5, GS6, GS7, GS8, GS9, GS10, GS11, TT_eq, TTl, Nat.reduceAdd, Nat.reduceMul, Nat.reduceSub, Nat.reduceDiv, Nat.reduceMod, Nat.reducePow, Nat.reduceEqDiff, ↓reduceIte, reduceCtorEq, true_and, and_true, and_self, false_and, and_false, Int.reduceToNat, Int.reduceAdd, Int.reduceSub, Int.reduceMul, cond_true, cond_false, List.toList_toArray, Option.map_some, Option.map_none, Option.some.injEq, List.cons_append, List.nil_append, List.length_cons, List.length_nil, List.getD_cons_zero, List.getD_cons_succ, cA, cB, h_k]
    exact hR2 false ⟨fun h => by simp at h, fun e => absurd (e.1) h_k⟩ _ hM0
  subst h_k
  by_cases h_a : a = a2
  rotate_left
  · simp (config := { maxSteps := 1000000 }) (disch := first | omega | (simp only [sizeAlloc, sizeDrew, sizeSet, sizePut] <;> omega) | fail) only [GS1, GS2, GS3, GS4, GS5, GS6, GS7, GS8, GS9, GS10, GS11, TT_eq, TTl, Nat.reduceAdd, Nat.reduceMul, Nat.reduceSub, Nat.reduceDiv, Nat.reduceMod, Nat.reducePow, Nat.reduceEqDiff, ↓reduceIte, reduceCtorEq, true_and, and_true, and_self, false_and, and_false, Int.reduceToNat, Int.reduceAdd, Int.reduceSub, Int.reduceMul, cond_true, cond_false, List.toList_toArray, Option.map_some, Option.map_none, Option.some.injEq, List.cons_append, List.nil_append, List.length_cons, List.length_nil, List.getD_cons_zero, List.getD_cons_succ, cA, cB, h_a, eq_self]
    exact hR2 false ⟨fun h => by simp at h, fun e => absurd (congrArg (·.1) e.2.1) h_a⟩ _ hM0
  subst h_a
  by_cases h_b : b = b2
  rotate_left
  · simp (config := { maxSteps := 1000000 }) (disch := first | omega | (simp only [sizeAlloc, sizeDrew, sizeSet, sizePut] <;> omega) | fail) only [GS1, GS2, GS3, GS4, GS5, GS6, GS7, GS8, GS9, GS10, GS11, TT_eq, TTl, Nat.reduceAdd, Nat.reduceMul, Nat.reduceSub, Nat.reduceDiv, Nat.reduceMod, Nat.reducePow, Nat.reduceEqDiff, ↓reduceIte, reduceCtorEq, true_and, and_true, and_self, false_and, and_false, Int.reduceToNat, Int.reduceAdd, Int.reduceSub, Int.reduceMul, cond_true, cond_false, List.toList_toArray, Option.map_some, Option.map_none, Option.some.injEq, List.cons_append, List.nil_append, List.length_cons, List.length_nil, List.getD_cons_zero, List.getD_cons_succ, cA, cB, h_b, eq_self]
    exact hR2 false ⟨fun h => by simp at h, fun e => absurd (congrArg (·.2.1) e.2.1) h_b⟩ _ hM0
  subst h_b
  by_cases h_c : c = c2
  rotate_left
  · simp (config := { maxSteps := 1000000 }) (disch := first | omega | (simp only [sizeAlloc, sizeDrew, sizeSet, sizePut] <;> omega) | fail) only [GS1, GS2, GS3, GS4, GS5, GS6, GS7, GS8, GS9, GS10, GS11, TT_eq, TTl, Nat.reduceAdd, Nat.reduceMul, Nat.reduceSub, Nat.reduceDiv, Nat.reduceMod, Nat.reducePow, Nat.reduceEqDiff, ↓reduceIte, reduceCtorEq, true_and, and_true, and_self, false_and, and_false, Int.reduceToNat, Int.reduceAdd, Int.reduceSub, Int.reduceMul, cond_true, cond_false, List.toList_toArray, Option.map_some, Option.map_none, Option.some.injEq, List.cons_append, List.nil_append, List.length_cons, List.length_nil, List.getD_cons_zero, List.getD_cons_succ, cA, cB, h_c, eq_self]
    exact hR2 false ⟨fun h => by simp at h, fun e => absurd (congrArg (·.2.2) e.2.1) h_c⟩ _ hM0
  subst h_c
  by_cases h_aud : aud = aud2
  rotate_left
  · simp (config := { maxSteps := 1000000 }) (disch := first | omega | (simp only [sizeAlloc, sizeDrew, sizeSet, sizePut] <;> omega) | fail) only [GS1, GS2, GS3, GS4, GS5, GS6, GS7, GS8, GS9, GS10, GS11, TT_eq, TTl, Nat.reduceAdd, Nat.reduceMul, Nat.reduceSub, Nat.reduceDiv, Nat.reduceMod, Nat.reducePow, Nat.reduceEqDiff, ↓reduceIte, reduceCtorEq, true_and, and_true, and_self, false_and, and_false, Int.reduceToNat, Int.reduceAdd, Int.reduceSub, Int.reduceMul, cond_true, cond_false, List.toList_toArray, Option.map_some, Option.map_none, Option.some.injEq, List.cons_append, List.nil_append, List.length_cons, List.length_nil, List.getD_cons_zero, List.getD_cons_succ, cA, cB, h_aud, eq_self]
    exact hR2 false ⟨fun h => by simp at h, fun e => absurd (e.2.2.1) h_aud⟩ _ hM0
  subst h_aud
  simp (config := { maxSteps := 1000000 }) (disch := first | omega | (simp only [sizeAlloc, sizeDrew, sizeSet, sizePut] <;> omega) | fail) only [GS1, GS2, GS3, GS4, GS5, GS6, GS7, GS8, GS9, GS10, GS11, TT_eq, TTl, Nat.reduceAdd, Nat.reduceMul, Nat.reduceSub, Nat.reduceDiv, Nat.reduceMod, Nat.reducePow, Nat.reduceEqDiff, ↓reduceIte, reduceCtorEq, true_and, and_true, and_self, false_and, and_false, Int.reduceToNat, Int.reduceAdd, Int.reduceSub, Int.reduceMul, cond_true, cond_false, List.toList_toArray, Option.map_some, Option.map_none, Option.some.injEq, List.cons_append, List.nil_append, List.length_cons, List.length_nil, List.getD_cons_zero, List.getD_cons_succ, cA, cB, eq_self]
  refine ⟨fok50, SameM_cps sa sb mbs mbs2 _ _ hl (ha.mod hM0 (by simp)) (hb.mod hM0 (by simp)) fun w2 hM2 => .inl ⟨_, rfl, hold_ops okT (rs := [.tmp 4]) rfl ?_⟩⟩
  have hA2 := hM2.get hA (by simp)
  have hB2 := hM2.get hB (by simp)
  have hM02 := hM0.trans hM2 (by simp)
  have dA := fun o => cellOf (o := o) hA2
  have dB := fun o => cellOf (o := o) hB2
  by_cases hm : mbs = mbs2
  rotate_left
  · rw [decide_eq_false hm]
    have hF := hR2 false ⟨fun h => by simp at h, fun e => absurd e.2.2.2.1 hm⟩ _ hM02
    simp (config := { maxSteps := 1000000 }) (disch := first | omega | (simp only [sizeAlloc, sizeDrew, sizeSet, sizePut] <;> omega) | fail) only [GS1, GS2, GS3, GS4, GS5, GS6, GS7, GS8, GS9, GS10, GS11, TT_eq, TTl, Nat.reduceAdd, Nat.reduceMul, Nat.reduceSub, Nat.reduceDiv, Nat.reduceMod, Nat.reducePow, Nat.reduceEqDiff, ↓reduceIte, reduceCtorEq, true_and, and_true, and_self, false_and, and_false, Int.reduceToNat, Int.reduceAdd, Int.reduceSub, Int.reduceMul, cond_true, cond_false, List.toList_toArray, Option.map_some, Option.map_none, Option.some.injEq, List.cons_append, List.nil_append, List.length_cons, List.length_nil, List.getD_cons_zero, List.getD_cons_succ]
    exact hF
  rw [decide_eq_true hm]
  by_cases hbd : body = body2
  rotate_left
  · have hF := hR2 false ⟨fun h => by simp at h, fun e => absurd e.2.2.2.2.1 hbd⟩ _ hM02
    simp (config := { maxSteps := 1000000 }) (disch := first | omega | (simp only [sizeAlloc, sizeDrew, sizeSet, sizePut] <;> omega) | fail) only [GS1, GS2, GS3, GS4, GS5, GS6, GS7, GS8, GS9, GS10, GS11, TT_eq, TTl, Nat.reduceAdd, Nat.reduceMul, Nat.reduceSub, Nat.reduceDiv, Nat.reduceMod, Nat.reducePow, Nat.reduceEqDiff, ↓reduceIte, reduceCtorEq, true_and, and_true, and_self, false_and, and_false, Int.reduceToNat, Int.reduceAdd, Int.reduceSub, Int.reduceMul, cond_true, cond_false, List.toList_toArray, Option.map_some, Option.map_none, Option.some.injEq, List.cons_append, List.nil_append, List.length_cons, List.length_nil, List.getD_cons_zero, List.getD_cons_succ, dA, dB, hbd]
    exact hF
  subst hbd
  by_cases hy : yes = yes2
  rotate_left
  · have hF := hR2 false ⟨fun h => by simp at h, fun e => absurd e.2.2.2.2.2.1 hy⟩ _ hM02
    have hy2 : beq2 yes yes2 = false := by revert hy; cases yes <;> cases yes2 <;> simp [beq2, bnot]
    simp (config := { maxSteps := 1000000 }) (disch := first | omega | (simp only [sizeAlloc, sizeDrew, sizeSet, sizePut] <;> omega) | fail) only [GS1, GS2, GS3, GS4, GS5, GS6, GS7, GS8, GS9, GS10, GS11, TT_eq, TTl, Nat.reduceAdd, Nat.reduceMul, Nat.reduceSub, Nat.reduceDiv, Nat.reduceMod, Nat.reducePow, Nat.reduceEqDiff, ↓reduceIte, reduceCtorEq, true_and, and_true, and_self, false_and, and_false, Int.reduceToNat, Int.reduceAdd, Int.reduceSub, Int.reduceMul, cond_true, cond_false, List.toList_toArray, Option.map_some, Option.map_none, Option.some.injEq, List.cons_append, List.nil_append, List.length_cons, List.length_nil, List.getD_cons_zero, List.getD_cons_succ, dA, dB, hy2]
    exact hF
  subst hy
  have hy2 : beq2 yes yes = true := by cases yes <;> rfl
  by_cases ht : tag = tag2
  rotate_left
  · have hF := hR2 false ⟨fun h => by simp at h, fun e => absurd e.2.2.2.2.2.2 ht⟩ _ hM02
    simp (config := { maxSteps := 1000000 }) (disch := first | omega | (simp only [sizeAlloc, sizeDrew, sizeSet, sizePut] <;> omega) | fail) only [GS1, GS2, GS3, GS4, GS5, GS6, GS7, GS8, GS9, GS10, GS11, TT_eq, TTl, Nat.reduceAdd, Nat.reduceMul, Nat.reduceSub, Nat.reduceDiv, Nat.reduceMod, Nat.reducePow, Nat.reduceEqDiff, ↓reduceIte, reduceCtorEq, true_and, and_true, and_self, false_and, and_false, Int.reduceToNat, Int.reduceAdd, Int.reduceSub, Int.reduceMul, cond_true, cond_false, List.toList_toArray, Option.map_some, Option.map_none, Option.some.injEq, List.cons_append, List.nil_append, List.length_cons, List.length_nil, List.getD_cons_zero, List.getD_cons_succ, dA, dB, ht, hy2, eq_self]
    exact hF
  subst ht
  simp (config := { maxSteps := 1000000 }) (disch := first | omega | (simp only [sizeAlloc, sizeDrew, sizeSet, sizePut] <;> omega) | fail) only [GS1, GS2, GS3, GS4, GS5, GS6, GS7, GS8, GS9, GS10, GS11, TT_eq, TTl, Nat.reduceAdd, Nat.reduceMul, Nat.reduceSub, Nat.reduceDiv, Nat.reduceMod, Nat.reducePow, Nat.reduceEqDiff, ↓reduceIte, reduceCtorEq, true_and, and_true, and_self, false_and, and_false, Int.reduceToNat, Int.reduceAdd, Int.reduceSub, Int.reduceMul, cond_true, cond_false, List.toList_toArray, Option.map_some, Option.map_none, Option.some.injEq, List.cons_append, List.nil_append, List.length_cons, List.length_nil, List.getD_cons_zero, List.getD_cons_succ, dA, dB, hy2, eq_self]
  exact hR2 true ⟨fun _ => ⟨rfl, rfl, rfl, hm, rfl, rfl, rfl⟩, fun _ => rfl⟩ _ hM02
end Go.Proofs.Ytpcilobbohokcaa
