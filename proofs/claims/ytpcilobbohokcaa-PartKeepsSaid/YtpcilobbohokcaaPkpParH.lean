/-
  PartKeeps: a step; what comes behind what (walks, and plain).
-/
import Derived.Test.YtpcilobbohokcaaPkpParE
set_option linter.unusedSimpArgs false
set_option linter.unusedVariables false
namespace Go.Proofs.Ytpcilobbohokcaa
open Go Go.Wk Go.RowKit
attribute [local irreducible] go Hold
open Go.Lib
theorem agg10k {w w' : World} {n : Nat} {x0 x1 x2 x3 x4 x5 x6 x7 x8 x9 : Value} (h : w.heap[n]? = some (.cells #[x0, x1, x2, x3, x4, x5, x6, x7, x8, x9] 64 (0, 0))) (hm : Mod [] w w') : aggO (consO (w'.cell? ⟨n, 0, none⟩) (consO (w'.cell? ⟨n, 1, none⟩) (consO (w'.cell? ⟨n, 2, none⟩) (consO (w'.cell? ⟨n, 3, none⟩) (consO (w'.cell? ⟨n, 4, none⟩) (consO (w'.cell? ⟨n, 5, none⟩) (consO (w'.cell? ⟨n, 6, none⟩) (consO (w'.cell? ⟨n, 7, none⟩) (consO (w'.cell? ⟨n, 8, none⟩) (consO (w'.cell? ⟨n, 9, none⟩) (some []))))))))))) = some (.agg #[x0, x1, x2, x3, x4, x5, x6, x7, x8, x9]) := by
  have c := fun o => cellOf (o := o) (hm.get h (by simp))
  rw [c 0, c 1, c 2, c 3, c 4, c 5, c 6, c 7, c 8, c 9]
  rfl
/-- A step: a vote, what is learnt, a mark. -/
structure Sp where
  d : Nat
  yes : Bool
  tag : List UInt8
  now : Int
def spC (x : Sp) : List Value := [.int .u8 x.d, .bool x.yes, .string ⟨x.tag.toArray⟩, .int .i64 x.now]
theorem spC_len (x : Sp) : (spC x).length = 4 := rfl
def doE (p : Pt) (x : Sp) : Except Int Pt := if x.d % 3 = 0 then voteE p x.yes x.tag else if x.d % 3 = 1 then learnE p x.yes else markE p x.now
/-- Whether a state may come behind another one. -/
def aheadB (a b : Nat) : Bool := decide (a = b) || (if a = 1 then decide (b = 2 ∨ b = 3 ∨ b = 5) else if a = 2 then decide (b = 4 ∨ b = 5) else if a = 3 then decide (b = 5) else false)
structure DoOk (p q : Pt) : Prop where
  may : mayPt q = true
  ah : aheadB p.st q.st = true
  tx : q.tx = p.tx
  aud : q.aud = p.aud
  mbs : q.mbs = p.mbs
  org : q.org = p.org
  body : q.body = p.body
  tag : p.st ≠ 1 → q.tag = p.tag
  com : q.st = 4 → p.st = 2 ∨ p.st = 4
  sam : q.st = 2 ∨ q.st = 3 → p.st = 1 ∨ q.st = p.st
  ab : q.st = 1 → p.st = 1
theorem may_iff (p : Pt) : mayPt p = true ↔ (1 ≤ p.st ∧ p.st ≤ 5) ∧ -1 ≤ p.sent ∧ checkS p.body = 0 ∧ balB p.tx p.aud p.mbs p.org = true ∧ tagB p.st p.tag = true := by
  unfold mayPt
  simp only [Bool.and_eq_true, decide_eq_true_eq]
  exact ⟨fun h => ⟨h.1.1.1.1, h.1.1.1.2, h.1.1.2, h.1.2, h.2⟩, fun h => ⟨⟨⟨⟨h.1, h.2.1⟩, h.2.2.1⟩, h.2.2.2.1⟩, h.2.2.2.2⟩⟩
theorem do_ok {p q : Pt} {x : Sp} (h : doE p x = .ok q) : DoOk p q := by
  unfold doE at h
  split at h
  · unfold voteE voteF at h
    split at h
    rotate_left
    · simp at h
    rename_i hm
    have hm' := (may_iff p).1 hm
    split at h
    · split at h
      rotate_left
      · simp at h
      rename_i hc
      split at h
      rotate_left
      · simp at h
      rename_i hs
      simp only [Except.ok.injEq] at h
      subst h
      refine ⟨(may_iff _).2 ⟨by simp only; omega, hm'.2.1, hm'.2.2.1, hm'.2.2.2.1, ?_⟩, ?_, rfl, rfl, rfl, rfl, rfl, fun h => absurd hs h, fun h => by simp at h, fun _ => .inl hs, fun h => by simp at h⟩
      · show tagB 2 _ = true
        unfold tagB
        rw [if_pos (.inl rfl)]
        exact decide_eq_true hc
      · show aheadB p.st 2 = true
        rw [hs]
        rfl
    · split at h
      rotate_left
      · simp at h
      rename_i ht
      split at h
      rotate_left
      · simp at h
      rename_i hs
      simp only [Except.ok.injEq] at h
      subst h
      refine ⟨(may_iff _).2 ⟨by simp only; omega, hm'.2.1, hm'.2.2.1, hm'.2.2.2.1, ?_⟩, ?_, rfl, rfl, rfl, rfl, rfl, fun h => absurd hs h, fun h => by simp at h, fun _ => .inl hs, fun h => by simp at h⟩
      · show tagB 3 _ = true
        unfold tagB
        rw [if_neg (by omega), if_neg (by omega)]
        exact decide_eq_true ht
      · show aheadB p.st 3 = true
        rw [hs]
        rfl
  · split at h
    · unfold learnE at h
      split at h
      rotate_left
      · simp at h
      rename_i hm
      have hm' := (may_iff p).1 hm
      split at h
      · simp at h
      rename_i hto
      split at h
      · simp at h
      rename_i hn
      simp only [Except.ok.injEq] at h
      subst h
      have hn1 : sO p.st = false := by
        cases ho : sO p.st
        · rfl
        · exact absurd (.inl ho) hn
      have h45 : ¬ (p.st = 4 ∨ p.st = 5) := of_decide_eq_false hn1
      cases hy : x.yes
      · rw [hy] at hto hn
        refine ⟨(may_iff _).2 ⟨by simp only [toN, cond_false]; omega, hm'.2.1, hm'.2.2.1, hm'.2.2.2.1, ?_⟩, ?_, rfl, rfl, rfl, rfl, rfl, fun _ => rfl, fun h => by simp [toN] at h, fun h => by simp [toN] at h, fun h => by simp [toN] at h⟩
        · show tagB 5 p.tag = true
          have ht := hm'.2.2.2.2
          unfold tagB at ht ⊢
          rw [if_neg (by omega), if_pos rfl]
          split at ht
          · exact decide_eq_true (.inl (of_decide_eq_true ht))
          · split at ht
            · exact ht
            · exact decide_eq_true (.inr (of_decide_eq_true ht))
        · show aheadB p.st 5 = true
          have : p.st = 1 ∨ p.st = 2 ∨ p.st = 3 := by omega
          rcases this with e | e | e <;> rw [e] <;> rfl
      · rw [hy] at hto hn
        have h2 : p.st = 2 := by
          apply Classical.byContradiction
          intro h2
          exact hn (.inr ⟨rfl, decide_eq_false h2⟩)
        refine ⟨(may_iff _).2 ⟨by simp only [toN, cond_true]; omega, hm'.2.1, hm'.2.2.1, hm'.2.2.2.1, ?_⟩, ?_, rfl, rfl, rfl, rfl, rfl, fun _ => rfl, fun _ => .inl h2, fun h => by simp [toN] at h, fun h => by simp [toN] at h⟩
        · show tagB 4 p.tag = true
          have ht := hm'.2.2.2.2
          unfold tagB at ht ⊢
          rw [if_pos (.inr rfl)]
          rw [if_pos (.inl h2)] at ht
          exact ht
        · show aheadB p.st 4 = true
          rw [h2]
          rfl
    · unfold markE at h
      split at h
      rotate_left
      · simp at h
      rename_i hm
      have hm' := (may_iff p).1 hm
      split at h
      · simp at h
      rename_i hn
      simp only [Except.ok.injEq] at h
      subst h
      refine ⟨(may_iff _).2 ⟨hm'.1, by simp only; omega, hm'.2.2.1, hm'.2.2.2.1, hm'.2.2.2.2⟩, ?_, rfl, rfl, rfl, rfl, rfl, fun _ => rfl, fun h => .inr h, fun _ => .inr rfl, fun h => h⟩
      show aheadB p.st p.st = true
      unfold aheadB
      simp
set_option maxRecDepth 20000 in
set_option maxHeartbeats 4000000 in
theorem ahead_cps (a b : Nat) (ha : a < 256) (hb : b < 256) (w : World) (R : Ending → World → Prop) (hR : R (.returned (.bool (aheadB a b))) w) :
    Calls Try.prog 32 #[.int .u8 a, .int .u8 b] w R := by
  unfold aheadB at hR
  refine calls_go 4000 okT Try.func32 rfl (rs := [.tmp 4]) rfl Try.ntmps32 (args := [.int .u8 a, .int .u8 b]) ?_
  by_cases hab : a = b
  · rw [decide_eq_true hab, Bool.true_or] at hR
    simp (maxSteps := 1000000) (disch := first | omega | (simp only [sizeAlloc, sizeDrew, sizeSet, sizePut] <;> omega) | fail) only [GS, TT_eq, TTl, Nat.reduceAdd, Nat.reduceMul, Nat.reduceSub, Nat.reduceDiv, Nat.reduceMod, Nat.reducePow, Nat.reduceEqDiff, ↓reduceIte, reduceCtorEq, Int.reduceToNat, Int.reduceAdd, Int.reduceSub, Int.reduceMul, (decide_eq_true (show (a : Int) = (b : Int) by omega))]
    exact hR
  rw [decide_eq_false hab, Bool.false_or] at hR
  have nab := decide_eq_false (show ¬ (a : Int) = (b : Int) by omega)
  have hdec : ∀ c : Nat, decide (b = c) = decide ((b : Int) = (c : Int)) := fun c => decide_eq_decide.2 ⟨fun h => by omega, fun h => by omega⟩
  by_cases h1 : a = 1
  · rw [if_pos h1] at hR
    by_cases c2 : b = 2
    · rw [decide_eq_true (.inl c2)] at hR
      simp (maxSteps := 1000000) (disch := first | omega | (simp only [sizeAlloc, sizeDrew, sizeSet, sizePut] <;> omega) | fail) only [GS, TT_eq, TTl, Nat.reduceAdd, Nat.reduceMul, Nat.reduceSub, Nat.reduceDiv, Nat.reduceMod, Nat.reducePow, Nat.reduceEqDiff, ↓reduceIte, reduceCtorEq, Int.reduceToNat, Int.reduceAdd, Int.reduceSub, Int.reduceMul, nab, (decide_eq_true (show (a : Int) = 1 by omega)), (decide_eq_true (show (b : Int) = 2 by omega))]
      exact hR
    by_cases c3 : b = 3
    · rw [decide_eq_true (.inr (.inl c3))] at hR
      simp (maxSteps := 1000000) (disch := first | omega | (simp only [sizeAlloc, sizeDrew, sizeSet, sizePut] <;> omega) | fail) only [GS, TT_eq, TTl, Nat.reduceAdd, Nat.reduceMul, Nat.reduceSub, Nat.reduceDiv, Nat.reduceMod, Nat.reducePow, Nat.reduceEqDiff, ↓reduceIte, reduceCtorEq, Int.reduceToNat, Int.reduceAdd, Int.reduceSub, Int.reduceMul, nab, (decide_eq_true (show (a : Int) = 1 by omega)), (decide_eq_false (show ¬ (b : Int) = 2 by omega)), (decide_eq_true (show (b : Int) = 3 by omega))]
      exact hR
    by_cases c5 : b = 5
    · rw [decide_eq_true (.inr (.inr c5))] at hR
      simp (maxSteps := 1000000) (disch := first | omega | (simp only [sizeAlloc, sizeDrew, sizeSet, sizePut] <;> omega) | fail) only [GS, TT_eq, TTl, Nat.reduceAdd, Nat.reduceMul, Nat.reduceSub, Nat.reduceDiv, Nat.reduceMod, Nat.reducePow, Nat.reduceEqDiff, ↓reduceIte, reduceCtorEq, Int.reduceToNat, Int.reduceAdd, Int.reduceSub, Int.reduceMul, nab, (decide_eq_true (show (a : Int) = 1 by omega)), (decide_eq_false (show ¬ (b : Int) = 2 by omega)), (decide_eq_false (show ¬ (b : Int) = 3 by omega)), (decide_eq_true (show (b : Int) = 5 by omega))]
      exact hR
    rw [decide_eq_false (by omega)] at hR
    simp (maxSteps := 1000000) (disch := first | omega | (simp only [sizeAlloc, sizeDrew, sizeSet, sizePut] <;> omega) | fail) only [GS, TT_eq, TTl, Nat.reduceAdd, Nat.reduceMul, Nat.reduceSub, Nat.reduceDiv, Nat.reduceMod, Nat.reducePow, Nat.reduceEqDiff, ↓reduceIte, reduceCtorEq, Int.reduceToNat, Int.reduceAdd, Int.reduceSub, Int.reduceMul, nab, (decide_eq_true (show (a : Int) = 1 by omega)), (decide_eq_false (show ¬ (b : Int) = 2 by omega)), (decide_eq_false (show ¬ (b : Int) = 3 by omega)), (decide_eq_false (show ¬ (b : Int) = 5 by omega))]
    exact hR
  rw [if_neg h1] at hR
  by_cases h2 : a = 2
  · rw [if_pos h2] at hR
    by_cases c4 : b = 4
    · rw [decide_eq_true (.inl c4)] at hR
      simp (maxSteps := 1000000) (disch := first | omega | (simp only [sizeAlloc, sizeDrew, sizeSet, sizePut] <;> omega) | fail) only [GS, TT_eq, TTl, Nat.reduceAdd, Nat.reduceMul, Nat.reduceSub, Nat.reduceDiv, Nat.reduceMod, Nat.reducePow, Nat.reduceEqDiff, ↓reduceIte, reduceCtorEq, Int.reduceToNat, Int.reduceAdd, Int.reduceSub, Int.reduceMul, nab, (decide_eq_false (show ¬ (a : Int) = 1 by omega)), (decide_eq_true (show (a : Int) = 2 by omega)), (decide_eq_true (show (b : Int) = 4 by omega))]
      exact hR
    by_cases c5 : b = 5
    · rw [decide_eq_true (.inr c5)] at hR
      simp (maxSteps := 1000000) (disch := first | omega | (simp only [sizeAlloc, sizeDrew, sizeSet, sizePut] <;> omega) | fail) only [GS, TT_eq, TTl, Nat.reduceAdd, Nat.reduceMul, Nat.reduceSub, Nat.reduceDiv, Nat.reduceMod, Nat.reducePow, Nat.reduceEqDiff, ↓reduceIte, reduceCtorEq, Int.reduceToNat, Int.reduceAdd, Int.reduceSub, Int.reduceMul, nab, (decide_eq_false (show ¬ (a : Int) = 1 by omega)), (decide_eq_true (show (a : Int) = 2 by omega)), (decide_eq_false (show ¬ (b : Int) = 4 by omega)), (decide_eq_true (show (b : Int) = 5 by omega))]
      exact hR
    rw [decide_eq_false (by omega)] at hR
    simp (maxSteps := 1000000) (disch := first | omega | (simp only [sizeAlloc, sizeDrew, sizeSet, sizePut] <;> omega) | fail) only [GS, TT_eq, TTl, Nat.reduceAdd, Nat.reduceMul, Nat.reduceSub, Nat.reduceDiv, Nat.reduceMod, Nat.reducePow, Nat.reduceEqDiff, ↓reduceIte, reduceCtorEq, Int.reduceToNat, Int.reduceAdd, Int.reduceSub, Int.reduceMul, nab, (decide_eq_false (show ¬ (a : Int) = 1 by omega)), (decide_eq_true (show (a : Int) = 2 by omega)), (decide_eq_false (show ¬ (b : Int) = 4 by omega)), (decide_eq_false (show ¬ (b : Int) = 5 by omega))]
    exact hR
  rw [if_neg h2] at hR
  by_cases h3 : a = 3
  · rw [if_pos h3] at hR
    by_cases c5 : b = 5
    · rw [decide_eq_true c5] at hR
      simp (maxSteps := 1000000) (disch := first | omega | (simp only [sizeAlloc, sizeDrew, sizeSet, sizePut] <;> omega) | fail) only [GS, TT_eq, TTl, Nat.reduceAdd, Nat.reduceMul, Nat.reduceSub, Nat.reduceDiv, Nat.reduceMod, Nat.reducePow, Nat.reduceEqDiff, ↓reduceIte, reduceCtorEq, Int.reduceToNat, Int.reduceAdd, Int.reduceSub, Int.reduceMul, nab, (decide_eq_false (show ¬ (a : Int) = 1 by omega)), (decide_eq_false (show ¬ (a : Int) = 2 by omega)), (decide_eq_true (show (a : Int) = 3 by omega)), (decide_eq_true (show (b : Int) = 5 by omega))]
      exact hR
    rw [decide_eq_false c5] at hR
    simp (maxSteps := 1000000) (disch := first | omega | (simp only [sizeAlloc, sizeDrew, sizeSet, sizePut] <;> omega) | fail) only [GS, TT_eq, TTl, Nat.reduceAdd, Nat.reduceMul, Nat.reduceSub, Nat.reduceDiv, Nat.reduceMod, Nat.reducePow, Nat.reduceEqDiff, ↓reduceIte, reduceCtorEq, Int.reduceToNat, Int.reduceAdd, Int.reduceSub, Int.reduceMul, nab, (decide_eq_false (show ¬ (a : Int) = 1 by omega)), (decide_eq_false (show ¬ (a : Int) = 2 by omega)), (decide_eq_true (show (a : Int) = 3 by omega)), (decide_eq_false (show ¬ (b : Int) = 5 by omega))]
    exact hR
  rw [if_neg h3] at hR
  simp (maxSteps := 1000000) (disch := first | omega | (simp only [sizeAlloc, sizeDrew, sizeSet, sizePut] <;> omega) | fail) only [GS, TT_eq, TTl, Nat.reduceAdd, Nat.reduceMul, Nat.reduceSub, Nat.reduceDiv, Nat.reduceMod, Nat.reducePow, Nat.reduceEqDiff, ↓reduceIte, reduceCtorEq, Int.reduceToNat, Int.reduceAdd, Int.reduceSub, Int.reduceMul, nab, (decide_eq_false (show ¬ (a : Int) = 1 by omega)), (decide_eq_false (show ¬ (a : Int) = 2 by omega)), (decide_eq_false (show ¬ (a : Int) = 3 by omega))]
  exact hR
set_option maxRecDepth 20000 in
set_option maxHeartbeats 16000000 in
theorem does_cps (p : Pt) (ms : Value) (x : Sp) (hd : x.d < 256) (hx : x.tag.length ≤ maxLen) (w : World) (h : PtIn w p ms) (R : Ending → World → Prop)
    (hR : ∀ cv w', w'.ownsRow w.heap.size 59 2 cv (resQ (doE p x)).mbs.length ((resQ (doE p x)).mbs.flatMap mbC) → Mod [] w w' → R (.returned (.tuple #[ptV (resQ (doE p x)) cv, .int .i64 (resC (doE p x))])) w') :
    Calls Try.prog 30 #[ptV p ms, .agg (spC x).toArray] w R := by
  have os : ms.oneCell' = true := by obtain ⟨a, c, e⟩ := h.rd.slice; rw [e]; rfl
  have hV := fun w h => pVote_u p ms x.yes x.tag hx w h
  have hL := fun w h => pLearn_u p ms x.yes w h
  have hK := fun w h => pMark_u p ms x.now w h
  have hrem : ((x.d : Nat) : Int).tmod 3 = ((x.d % 3 : Nat) : Int) := (Int.ofNat_tmod x.d 3).symm
  unfold doE at hR
  unfold ptV ptC at *
  unfold spC
  refine calls_go 4000 okT Try.func30 rfl (rs := [.cell 4 64, .tmp 5]) rfl Try.ntmps30 (args := [.agg #[.int .i64 p.tx.1, .int .i64 p.tx.2.1, .int .i64 p.tx.2.2, .int .i64 p.aud, ms, .int .i64 p.org, .string ⟨p.body.toArray⟩, .int .u8 p.st, .string ⟨p.tag.toArray⟩, .int .i64 p.sent], .agg #[.int .u8 x.d, .bool x.yes, .string ⟨x.tag.toArray⟩, .int .i64 x.now]]) ?_
  simp (maxSteps := 1000000) (disch := first | omega | (simp only [sizeAlloc, sizeDrew, sizeSet, sizePut] <;> omega) | fail) only [GS, TT_eq, TTl, Nat.reduceAdd, Nat.reduceMul, Nat.reduceSub, Nat.reduceDiv, Nat.reduceMod, Nat.reducePow, Nat.reduceEqDiff, ↓reduceIte, reduceCtorEq, Int.reduceToNat, Int.reduceAdd, Int.reduceSub, Int.reduceMul, os, cellsL_one os, hrem]
  generalize hW : ((w.alloc (.cells #[.int .i64 p.tx.1, .int .i64 p.tx.2.1, .int .i64 p.tx.2.2, .int .i64 p.aud, ms, .int .i64 p.org, .string ⟨p.body.toArray⟩, .int .u8 p.st, .string ⟨p.tag.toArray⟩, .int .i64 p.sent] 64)).alloc (.cells #[.int .u8 x.d, .bool x.yes, .string ⟨x.tag.toArray⟩, .int .i64 x.now] 70)).alloc (.cells #[.int .i64 0, .int .i64 0, .int .i64 0, .int .i64 0, .slice none 0 0, .int .i64 0, .string ⟨#[]⟩, .int .u8 0, .string ⟨#[]⟩, .int .i64 0] 64) = w1
  obtain ⟨hP, hX, hC, hM0⟩ := three hW
  clear hW
  generalize hn : w.heap.size = n at *
  have hgeC : w.heap.size ≤ n + 1 + 1 := by omega
  have hz : n + 1 + 1 < w1.heap.size := (Array.getElem?_eq_some_iff.1 hC).1
  have cP := fun o => cellOf (o := o) hP
  have cX := fun o => cellOf (o := o) hX
  by_cases h0 : x.d % 3 = 0
  · rw [if_pos h0] at hR
    generalize resQ (voteE p x.yes x.tag) = Q at *
    generalize resC (voteE p x.yes x.tag) = E at *
    simp (maxSteps := 1000000) (disch := first | omega | (simp only [sizeAlloc, sizeDrew, sizeSet, sizePut] <;> omega) | fail) only [GS, TT_eq, TTl, Nat.reduceAdd, Nat.reduceMul, Nat.reduceSub, Nat.reduceDiv, Nat.reduceMod, Nat.reducePow, Nat.reduceEqDiff, ↓reduceIte, reduceCtorEq, Int.reduceToNat, Int.reduceAdd, Int.reduceSub, Int.reduceMul, cP, cX, hrem, (decide_eq_true (show ((x.d % 3 : Nat) : Int) = 0 by omega))]
    refine ⟨fok66, hV _ (h.mod hM0) _ fun cv w3 hown hM3 => .inl ⟨_, rfl, hold_ops okT (rs := [.cell 4 64, .tmp 5]) rfl ?_⟩⟩
    have hC3 := hM3.get hC (by simp)
    have hM03 := hM0.trans hM3 (by simp)
    have oc := ownsRow_one hown
    have cC := fun o => cellOf (o := o) hC3
    have xC := fun o => frozenOf (o := o) hC3
    simp (maxSteps := 1000000) (disch := first | omega | (simp only [sizeAlloc, sizeDrew, sizeSet, sizePut] <;> omega) | fail) only [GS, TT_eq, TTl, Nat.reduceAdd, Nat.reduceMul, Nat.reduceSub, Nat.reduceDiv, Nat.reduceMod, Nat.reducePow, Nat.reduceEqDiff, ↓reduceIte, reduceCtorEq, Int.reduceToNat, Int.reduceAdd, Int.reduceSub, Int.reduceMul, cC, xC, oc, cellsL_one oc]
    refine load10 (st10 hC3) ?_
    refine hR cv _ ?_ (modSet10 hM03 (.inr hgeC))
    exact ownsRow_base (ownsRow_mod (S := [n + 1 + 1]) hown (modSet10 (F := [n + 1 + 1]) (p := n + 1 + 1) (x0 := .int .i64 Q.tx.1) (x1 := .int .i64 Q.tx.2.1) (x2 := .int .i64 Q.tx.2.2) (x3 := .int .i64 Q.aud) (x4 := cv) (x5 := .int .i64 Q.org) (x6 := .string ⟨Q.body.toArray⟩) (x7 := .int .u8 Q.st) (x8 := .string ⟨Q.tag.toArray⟩) (x9 := .int .i64 Q.sent) (Mod.refl [n + 1 + 1] w3) (.inl (by simp))) (by simp; omega)) (by omega)
  rw [if_neg h0] at hR
  by_cases h1 : x.d % 3 = 1
  · rw [if_pos h1] at hR
    generalize resQ (learnE p x.yes) = Q at *
    generalize resC (learnE p x.yes) = E at *
    simp (maxSteps := 1000000) (disch := first | omega | (simp only [sizeAlloc, sizeDrew, sizeSet, sizePut] <;> omega) | fail) only [GS, TT_eq, TTl, Nat.reduceAdd, Nat.reduceMul, Nat.reduceSub, Nat.reduceDiv, Nat.reduceMod, Nat.reducePow, Nat.reduceEqDiff, ↓reduceIte, reduceCtorEq, Int.reduceToNat, Int.reduceAdd, Int.reduceSub, Int.reduceMul, cP, cX, hrem, (decide_eq_false (show ¬ ((x.d % 3 : Nat) : Int) = 0 by omega)), (decide_eq_true (show ((x.d % 3 : Nat) : Int) = 1 by omega))]
    refine ⟨fok65, hL _ (h.mod hM0) _ fun cv w3 hown hM3 => .inl ⟨_, rfl, hold_ops okT (rs := [.cell 4 64, .tmp 5]) rfl ?_⟩⟩
    have hC3 := hM3.get hC (by simp)
    have hM03 := hM0.trans hM3 (by simp)
    have oc := ownsRow_one hown
    have cC := fun o => cellOf (o := o) hC3
    have xC := fun o => frozenOf (o := o) hC3
    simp (maxSteps := 1000000) (disch := first | omega | (simp only [sizeAlloc, sizeDrew, sizeSet, sizePut] <;> omega) | fail) only [GS, TT_eq, TTl, Nat.reduceAdd, Nat.reduceMul, Nat.reduceSub, Nat.reduceDiv, Nat.reduceMod, Nat.reducePow, Nat.reduceEqDiff, ↓reduceIte, reduceCtorEq, Int.reduceToNat, Int.reduceAdd, Int.reduceSub, Int.reduceMul, cC, xC, oc, cellsL_one oc]
    refine load10 (st10 hC3) ?_
    refine hR cv _ ?_ (modSet10 hM03 (.inr hgeC))
    exact ownsRow_base (ownsRow_mod (S := [n + 1 + 1]) hown (modSet10 (F := [n + 1 + 1]) (p := n + 1 + 1) (x0 := .int .i64 Q.tx.1) (x1 := .int .i64 Q.tx.2.1) (x2 := .int .i64 Q.tx.2.2) (x3 := .int .i64 Q.aud) (x4 := cv) (x5 := .int .i64 Q.org) (x6 := .string ⟨Q.body.toArray⟩) (x7 := .int .u8 Q.st) (x8 := .string ⟨Q.tag.toArray⟩) (x9 := .int .i64 Q.sent) (Mod.refl [n + 1 + 1] w3) (.inl (by simp))) (by simp; omega)) (by omega)
  · rw [if_neg h1] at hR
    generalize resQ (markE p x.now) = Q at *
    generalize resC (markE p x.now) = E at *
    simp (maxSteps := 1000000) (disch := first | omega | (simp only [sizeAlloc, sizeDrew, sizeSet, sizePut] <;> omega) | fail) only [GS, TT_eq, TTl, Nat.reduceAdd, Nat.reduceMul, Nat.reduceSub, Nat.reduceDiv, Nat.reduceMod, Nat.reducePow, Nat.reduceEqDiff, ↓reduceIte, reduceCtorEq, Int.reduceToNat, Int.reduceAdd, Int.reduceSub, Int.reduceMul, cP, cX, hrem, (decide_eq_false (show ¬ ((x.d % 3 : Nat) : Int) = 0 by omega)), (decide_eq_false (show ¬ ((x.d % 3 : Nat) : Int) = 1 by omega))]
    refine ⟨fok71, hK _ (h.mod hM0) _ fun cv w3 hown hM3 => .inl ⟨_, rfl, hold_ops okT (rs := [.cell 4 64, .tmp 5]) rfl ?_⟩⟩
    have hC3 := hM3.get hC (by simp)
    have hM03 := hM0.trans hM3 (by simp)
    have oc := ownsRow_one hown
    have cC := fun o => cellOf (o := o) hC3
    have xC := fun o => frozenOf (o := o) hC3
    simp (maxSteps := 1000000) (disch := first | omega | (simp only [sizeAlloc, sizeDrew, sizeSet, sizePut] <;> omega) | fail) only [GS, TT_eq, TTl, Nat.reduceAdd, Nat.reduceMul, Nat.reduceSub, Nat.reduceDiv, Nat.reduceMod, Nat.reducePow, Nat.reduceEqDiff, ↓reduceIte, reduceCtorEq, Int.reduceToNat, Int.reduceAdd, Int.reduceSub, Int.reduceMul, cC, xC, oc, cellsL_one oc]
    refine load10 (st10 hC3) ?_
    refine hR cv _ ?_ (modSet10 hM03 (.inr hgeC))
    exact ownsRow_base (ownsRow_mod (S := [n + 1 + 1]) hown (modSet10 (F := [n + 1 + 1]) (p := n + 1 + 1) (x0 := .int .i64 Q.tx.1) (x1 := .int .i64 Q.tx.2.1) (x2 := .int .i64 Q.tx.2.2) (x3 := .int .i64 Q.aud) (x4 := cv) (x5 := .int .i64 Q.org) (x6 := .string ⟨Q.body.toArray⟩) (x7 := .int .u8 Q.st) (x8 := .string ⟨Q.tag.toArray⟩) (x9 := .int .i64 Q.sent) (Mod.refl [n + 1 + 1] w3) (.inl (by simp))) (by simp; omega)) (by omega)
section
variable {H : Type} {enc : TypeId × Value → H} {w : World} {base : Nat} {spare : Nat → Bool} {held : Bool}
theorem cells4 {cs : List Value} (hl : cs.length = 4) : ∃ k0 k1 k2 k3, cs = [k0, k1, k2, k3] := by
  match cs, hl with
  | [k0, k1, k2, k3], _ => exact ⟨_, _, _, _, rfl⟩
theorem sp_el : ∀ n cs y, DataW.trod enc Try.prog w base spare held n 70 cs = some y → ∃ x : Sp, cs = spC x ∧ (x.d < 256 ∧ x.tag.length ≤ maxLen ∧ I64 x.now) := by
  intro n cs y h
  obtain ⟨hl, hf⟩ := el_field Try.underlying70 h
  rw [show Try.prog.cellsOf 70 = 4 from by kernel_rfl] at hl
  obtain ⟨m0, z0, e0⟩ := hf 0 _ rfl
  obtain ⟨m1, z1, e1⟩ := hf 1 _ rfl
  obtain ⟨m2, z2, e2⟩ := hf 2 _ rfl
  obtain ⟨m3, z3, e3⟩ := hf 3 _ rfl
  obtain ⟨a0, f0, _, g0⟩ := DataW.trod_int Try.underlying5 e0
  obtain ⟨a1, f1, _⟩ := DataW.trod_bool Try.underlying4 e1
  obtain ⟨a2, f2, _, g2⟩ := DataW.trod_string Try.underlying9 e2
  obtain ⟨a3, f3, _, g3⟩ := DataW.trod_int Try.underlying2 e3
  have f0 : List.take (Try.prog.cellsOf 5) (List.drop 0 cs) = _ := f0
  have f1 : List.take (Try.prog.cellsOf 4) (List.drop 1 cs) = _ := f1
  have f2 : List.take (Try.prog.cellsOf 9) (List.drop 2 cs) = _ := f2
  have f3 : List.take (Try.prog.cellsOf 2) (List.drop 3 cs) = _ := f3
  rw [show Try.prog.cellsOf 5 = 1 from by kernel_rfl] at f0
  rw [show Try.prog.cellsOf 4 = 1 from by kernel_rfl] at f1
  rw [show Try.prog.cellsOf 9 = 1 from by kernel_rfl] at f2
  rw [show Try.prog.cellsOf 2 = 1 from by kernel_rfl] at f3
  obtain ⟨k0, k1, k2, k3, rfl⟩ := cells4 hl
  clear e0 e1 e2 e3 hf h
  simp only [List.drop_succ_cons, List.drop_zero, List.take_succ_cons, List.take_zero, List.cons.injEq, and_true] at f0 f1 f2 f3
  have q0 := wf_u8 g0
  refine ⟨⟨a0.toNat, a1, a2.data.toList, a3⟩, ?_, by simp only; omega, ?_, wf_i64 g3⟩
  · have e0 : ((a0.toNat : Nat) : Int) = a0 := Int.toNat_of_nonneg q0.1
    unfold spC
    simp only
    rw [e0, byL, f0, f1, f2, f3]
  · show a2.data.toList.length ≤ maxLen
    rw [Array.length_toList]
    exact g2
end
end Go.Proofs.Ytpcilobbohokcaa
