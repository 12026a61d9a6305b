/-
  wire: a lookup in the table of forms; Word (walk). wire.Check (walk). wire: a form's writer, whichever (walk). wire: a form's reader, whichever (walk). wire: a form's reader, whichever (walk). wire: what is encoded is decoded, and what is decoded is encoded as it was (plain). wire: a message that comes in.
-/
import Derived.Test.YtpcilobbohokcaaPkpW3
import Derived.Test.YtpcilobbohokcaaPkpMap
import Derived.Test.YtpcilobbohokcaaPkpW2
set_option linter.unusedSimpArgs false
set_option linter.unusedVariables false
namespace Go.Proofs.Ytpcilobbohokcaa
open Go Go.Wk Go.RowKit
attribute [local irreducible] go Hold
open Go.Lib
def kd0 : Value := .agg #[.string ⟨#[]⟩, .int .i64 0, .int .i64 0, .nilFunc, .nilFunc, .nilFunc]
/-- The form of a kind. -/
def kdAt (k : Nat) : Value := match mfind (.int .u8 k) kindsL with
  | some v => v
  | none => kd0
def kdOk (k : Nat) : Bool := decide (1 ≤ k ∧ k ≤ 6)
theorem look_w {w : World} {r k : Nat} (ok : Bool) (h : MapAt w r kindsL) (hk : k < 256) : lookV TT 103 (.map (some r)) (.int .u8 k) ok w = some (if ok then .tuple #[kdAt k, .bool (kdOk k)] else kdAt k) := by
  have hl := look_at (T := TT) (t := 103) (i := .int .u8 k) (ok := ok) h rfl
  by_cases h9 : 1 ≤ k ∧ k ≤ 6
  · obtain ⟨h1, h2⟩ := h9
    have : k = 1 ∨ k = 2 ∨ k = 3 ∨ k = 4 ∨ k = 5 ∨ k = 6 := by omega
    rcases this with rfl | rfl | rfl | rfl | rfl | rfl <;> (rw [hl]; cases ok <;> rfl)
  · rw [hl]
    have hf : mfind (.int .u8 k) kindsL = none := by
      unfold kindsL
      simp only [mfind, eqKey]
      repeat (rw [decide_eq_false (by omega)]; simp only [cond_false])
    show cond (keyB (kOf TT 5) (.int .u8 k)) (cond (keysB (kOf TT 5) (kindsL.map (·.1))) (some (lookR ok _ (mfind (.int .u8 k) kindsL))) none) none = _
    have hko : kdOk k = false := by unfold kdOk; exact decide_eq_false h9
    unfold kdAt
    rw [hf, hko]
    have hkb : keyB (kOf TT 5) (.int .u8 k) = true := rfl
    rw [hkb]
    cases ok <;> rfl
def wordS (k : Nat) : List UInt8 := match k with
  | 1 => [112, 114, 101, 112, 97, 114, 101]
  | 2 => [118, 111, 116, 101]
  | 3 => [100, 101, 99, 105, 115, 105, 111, 110]
  | 4 => [97, 99, 107]
  | 5 => [113, 117, 101, 114, 121]
  | 6 => [104, 101, 108, 108, 111]
  | _ => []
theorem kdAt_eq (k : Nat) : ∃ mn mx a b c, kdAt k = .agg #[.string ⟨(wordS k).toArray⟩, .int .i64 mn, .int .i64 mx, a, b, c] ∧ a.oneCell' = true ∧ b.oneCell' = true ∧ c.oneCell' = true := by
  by_cases h9 : 1 ≤ k ∧ k ≤ 6
  · obtain ⟨h1, h2⟩ := h9
    have : k = 1 ∨ k = 2 ∨ k = 3 ∨ k = 4 ∨ k = 5 ∨ k = 6 := by omega
    rcases this with rfl | rfl | rfl | rfl | rfl | rfl <;> exact ⟨_, _, _, _, _, rfl, rfl, rfl, rfl⟩
  · have hf : mfind (.int .u8 k) kindsL = none := by
      unfold kindsL
      simp only [mfind, eqKey]
      repeat (rw [decide_eq_false (by omega)]; simp only [cond_false])
    have hw : wordS k = [] := by unfold wordS; split <;> first | omega | rfl
    unfold kdAt
    rw [hf, hw]
    exact ⟨_, _, _, _, _, rfl, rfl, rfl, rfl⟩
end Go.Proofs.Ytpcilobbohokcaa
set_option linter.unusedSimpArgs false
set_option linter.unusedVariables false
namespace Go.Proofs.Ytpcilobbohokcaa
open Go Go.Wk Go.RowKit
attribute [local irreducible] go Hold
open Go.Lib
def fnAt (k : Nat) : Nat := match k with
  | 1 => 97
  | 2 => 102
  | 3 => 107
  | _ => 121
def formB (k : Nat) (m : Msg) : Bool := match k with
  | 1 => k1B m
  | 2 => k4B m
  | _ => true
theorem fn_ok (k : Nat) : FOk Try.prog (fnAt k) := by
  unfold fnAt
  split
  · exact fok97
  · exact fok102
  · exact fok107
  · exact fok121
theorem wForm_cps (k : Nat) (m : Msg) (sa : Value) (hB : m.body.length ≤ maxLen) (hT : m.tag.length ≤ maxLen) (hl : m.mbs.length ≤ 1000000) (hd : ∀ x ∈ m.mbs, x.2.length ≤ maxLen) (w : World) (ha : Rd w 2 sa m.mbs.length (m.mbs.flatMap mbC)) (R : Ending → World → Prop) (hR : ∀ w', Mod [] w w' → R (.returned (.bool (formB k m))) w') : Calls Try.prog (fnAt k) #[msgV m sa] w R := by
  unfold fnAt
  unfold formB at hR
  split at hR
  · exact wK1_cps m sa hB hl hd w ha R hR
  · exact wK4_cps m sa hT w R hR
  · rename_i h1 h2
    split
    · exact absurd rfl h1
    · exact absurd rfl h2
    · exact wK7_cps m sa w R hR
    · exact wP1_cps m sa w R hR
theorem kdAt_fn (k : Nat) (h : 1 ≤ k ∧ k ≤ 6) : ∃ mn mx b c, kdAt k = .agg #[.string ⟨(wordS k).toArray⟩, .int .i64 mn, .int .i64 mx, .func (.func (fnAt k)) #[] #[], b, c] ∧ b.oneCell' = true ∧ c.oneCell' = true := by
  obtain ⟨h1, h2⟩ := h
  have : k = 1 ∨ k = 2 ∨ k = 3 ∨ k = 4 ∨ k = 5 ∨ k = 6 := by omega
  rcases this with rfl | rfl | rfl | rfl | rfl | rfl <;> exact ⟨_, _, _, _, rfl, rfl, rfl⟩
def checkB (k : Nat) (m : Msg) : Bool := kdOk k && idleB m && (decide (k = 6) || txB m.tx) && formB k m
def checkE (k : Nat) (m : Msg) : Int := if checkB k m = true then 0 else 2
set_option maxRecDepth 20000 in
set_option maxHeartbeats 8000000 in
theorem wCheck_cps (m : Msg) (k : Nat) (hk0 : m.k = k) (hk : k < 256) (sa : Value) (hB : m.body.length ≤ maxLen) (hT : m.tag.length ≤ maxLen) (hl : m.mbs.length ≤ 1000000) (hd : ∀ x ∈ m.mbs, x.2.length ≤ maxLen) (w : World) (ha : Rd w 2 sa m.mbs.length (m.mbs.flatMap mbC)) (R : Ending → World → Prop) (hR : ∀ w', Mod [] w w' → R (.returned (.int .i64 (checkE k m))) w') : Calls Try.prog 19 #[msgV m sa] w R := by
  obtain ⟨k', ⟨a, b, c⟩, aud, mbs, body, yes, tag⟩ := m
  simp only at hk0; subst hk0
  unfold checkE checkB at hR
  have hfo := wForm_cps k ⟨k, (a, b, c), aud, mbs, body, yes, tag⟩ sa hB hT hl hd
  unfold msgV msgC at hfo ⊢
  simp only at hR hB hT hl hd ha hfo ⊢
  refine calls_go 4000 okT Try.func19 rfl (rs := [.tmp 2]) rfl Try.ntmps19 (args := [.agg #[.int .u8 k, .int .i64 a, .int .i64 b, .int .i64 c, .int .i64 aud, sa, .string ⟨body.toArray⟩, .bool yes, .string ⟨tag.toArray⟩]]) ?_
  simp (maxSteps := 1000000) (disch := first | omega | (simp only [sizeAlloc, sizeDrew, sizeSet, sizePut] <;> omega) | fail) only [GS, TT_eq, TTl, Nat.reduceAdd, Nat.reduceMul, Nat.reduceSub, Nat.reduceDiv, Nat.reduceMod, Nat.reducePow, Nat.reduceEqDiff, ↓reduceIte, reduceCtorEq, Int.reduceToNat, Int.reduceAdd, Int.reduceSub, Int.reduceMul]
  have hM0 := (Mod.refl [] w).alloc (.cells #[.int .u8 k, .int .i64 a, .int .i64 b, .int .i64 c, .int .i64 aud, sa, .string ⟨body.toArray⟩, .bool yes, .string ⟨tag.toArray⟩] 42)
  have hh := heapNew (w := w) (o := (.cells #[.int .u8 k, .int .i64 a, .int .i64 b, .int .i64 c, .int .i64 aud, sa, .string ⟨body.toArray⟩, .bool yes, .string ⟨tag.toArray⟩] 42))
  generalize w.alloc (.cells #[.int .u8 k, .int .i64 a, .int .i64 b, .int .i64 c, .int .i64 aud, sa, .string ⟨body.toArray⟩, .bool yes, .string ⟨tag.toArray⟩] 42) = w1 at hM0 hh ⊢
  generalize hn : w.heap.size = n at *
  refine hold_tree okT [0, 0, 2, 7, 15, 31, 31, 0, 191, 511] (.qop 1 (.qop 2 (.eff 0 (.lin [3, 4, 5, 6, 7, 8, 9]) (.eff 7 (.lin [0, 3, 4, 5, 6, 8, 9]) .stop)))) (by kernel_rfl) ?_
  have hh1 : (w1.drewN 1).heap[n]? = _ := hh
  have hM1 := hM0.drewN 1
  generalize w1.drewN 1 = w2 at *
  have c2 := fun o => cellOf (o := o) hh1
  refine ht_val okT rfl rfl (v := .pointer (some ⟨n, 0, none⟩)) (by simp (maxSteps := 1000000) (disch := first | omega | (simp only [sizeAlloc, sizeDrew, sizeSet, sizePut] <;> omega) | fail) only [GS, TT_eq, TTl, Nat.reduceAdd, Nat.reduceMul, Nat.reduceSub, Nat.reduceDiv, Nat.reduceMod, Nat.reducePow, Nat.reduceEqDiff, ↓reduceIte, reduceCtorEq, Int.reduceToNat, Int.reduceAdd, Int.reduceSub, Int.reduceMul]) ?_
  refine ht_val okT rfl rfl (v := .int .u8 k) (by simp (maxSteps := 1000000) (disch := first | omega | (simp only [sizeAlloc, sizeDrew, sizeSet, sizePut] <;> omega) | fail) only [GS, TT_eq, TTl, Nat.reduceAdd, Nat.reduceMul, Nat.reduceSub, Nat.reduceDiv, Nat.reduceMod, Nat.reducePow, Nat.reduceEqDiff, ↓reduceIte, reduceCtorEq, Int.reduceToNat, Int.reduceAdd, Int.reduceSub, Int.reduceMul, c2]) ?_
  have hkd : ∃ mn mx fa fb fc, kdAt k = .agg #[.string ⟨(wordS k).toArray⟩, .int .i64 mn, .int .i64 mx, fa, fb, fc] ∧ fa.oneCell' = true ∧ fb.oneCell' = true ∧ fc.oneCell' = true ∧ (kdOk k = true → fa = .func (.func (fnAt k)) #[] #[]) := by
    by_cases h9 : 1 ≤ k ∧ k ≤ 6
    · obtain ⟨mn, mx, fb, fc, e, h2, h3⟩ := kdAt_fn k h9
      exact ⟨mn, mx, _, fb, fc, e, rfl, h2, h3, fun _ => rfl⟩
    · obtain ⟨mn, mx, fa, fb, fc, e, h1, h2, h3⟩ := kdAt_eq k
      exact ⟨mn, mx, fa, fb, fc, e, h1, h2, h3, fun h => absurd (of_decide_eq_true h) h9⟩
  obtain ⟨mn, mx, fa, fb, fc, e, oa, ob, oc, hfa⟩ := hkd
  refine ht_call okT rfl rfl ?_ ?_
  · simp (maxSteps := 1000000) (disch := first | omega | (simp only [sizeAlloc, sizeDrew, sizeSet, sizePut] <;> omega) | fail) only [GS, TT_eq, TTl, Nat.reduceAdd, Nat.reduceMul, Nat.reduceSub, Nat.reduceDiv, Nat.reduceMod, Nat.reducePow, Nat.reduceEqDiff, ↓reduceIte, reduceCtorEq, Int.reduceToNat, Int.reduceAdd, Int.reduceSub, Int.reduceMul]
    refine ⟨fok57, wKinds_cps _ _ fun m w3 hm hmn hM => .inl ⟨_, rfl, cellM (c2 0) hM, ?_⟩⟩
    have hh3 := hM.get hh1 (by simp)
    have hM3 := hM1.trans hM (by simp)
    have c3 := fun o => cellOf (o := o) hh3
    refine ht_lin rfl (hold_dops okT (rs := [.tmp 2]) rfl ?_)
    have hl0 := look_w true hm.at hk
    rw [e] at hl0
    simp only [if_true] at hl0
    have hlt := hm.lt
    simp (maxSteps := 1000000) (disch := first | omega | (simp only [sizeAlloc, sizeDrew, sizeSet, sizePut] <;> omega) | fail) only [GS, TT_eq, TTl, Nat.reduceAdd, Nat.reduceMul, Nat.reduceSub, Nat.reduceDiv, Nat.reduceMod, Nat.reducePow, Nat.reduceEqDiff, ↓reduceIte, reduceCtorEq, Int.reduceToNat, Int.reduceAdd, Int.reduceSub, Int.reduceMul, hl0, c3, oa, ob, oc]
    have hMa := (Mod.refl [] w3).alloc (.cells #[.string ⟨#[]⟩, .int .i64 0, .int .i64 0, .nilFunc, .nilFunc, .nilFunc] 102)
    refine ⟨⟨by rw [lookAlloc hlt]; exact hl0, cellM (c3 0) hMa⟩, ?_⟩
    have hnb : n < w3.heap.size := (Array.getElem?_eq_some_iff.1 hh3).1
    have hwb := hM3.size
    have hbW := st6 (heapNew (w := w3) (o := (.cells #[.string ⟨#[]⟩, .int .i64 0, .int .i64 0, .nilFunc, .nilFunc, .nilFunc] 102))) (x := .string ⟨(wordS k).toArray⟩) (y := .int .i64 mn) (z := .int .i64 mx) (u := fa) (v := fb) (q := fc)
    have hhW : (((((((w3.alloc (.cells #[.string ⟨#[]⟩, .int .i64 0, .int .i64 0, .nilFunc, .nilFunc, .nilFunc] 102)).setCell ⟨w3.heap.size, 0, none⟩ (.string ⟨(wordS k).toArray⟩)).setCell ⟨w3.heap.size, 1, none⟩ (.int .i64 mn)).setCell ⟨w3.heap.size, 2, none⟩ (.int .i64 mx)).setCell ⟨w3.heap.size, 3, none⟩ fa).setCell ⟨w3.heap.size, 4, none⟩ fb).setCell ⟨w3.heap.size, 5, none⟩ fc).heap[n]? = _ := (heapSetNe (heapSetNe (heapSetNe (heapSetNe (heapSetNe (heapSetNe (hMa.get hh3 (by simp)) (by omega)) (by omega)) (by omega)) (by omega)) (by omega)) (by omega))
    have hMW : Mod [] w _ := (((((((hM3.alloc (.cells #[.string ⟨#[]⟩, .int .i64 0, .int .i64 0, .nilFunc, .nilFunc, .nilFunc] 102)).set (p := ⟨w3.heap.size, 0, none⟩) (.inr hwb) (.string ⟨(wordS k).toArray⟩)).set (p := ⟨w3.heap.size, 1, none⟩) (.inr hwb) (.int .i64 mn)).set (p := ⟨w3.heap.size, 2, none⟩) (.inr hwb) (.int .i64 mx)).set (p := ⟨w3.heap.size, 3, none⟩) (.inr hwb) fa).set (p := ⟨w3.heap.size, 4, none⟩) (.inr hwb) fb).set (p := ⟨w3.heap.size, 5, none⟩) (.inr hwb) fc)
    revert hbW hhW hMW
    generalize (((((((w3.alloc (.cells #[.string ⟨#[]⟩, .int .i64 0, .int .i64 0, .nilFunc, .nilFunc, .nilFunc] 102)).setCell ⟨w3.heap.size, 0, none⟩ (.string ⟨(wordS k).toArray⟩)).setCell ⟨w3.heap.size, 1, none⟩ (.int .i64 mn)).setCell ⟨w3.heap.size, 2, none⟩ (.int .i64 mx)).setCell ⟨w3.heap.size, 3, none⟩ fa).setCell ⟨w3.heap.size, 4, none⟩ fb).setCell ⟨w3.heap.size, 5, none⟩ fc) = w6
    intro hbW hhW hMW
    generalize w3.heap.size = b4 at hnb hwb hbW ⊢
    have cW := fun o => cellOf (o := o) hhW
    cases hko : kdOk k
    · simp only [hko, Bool.false_and, Bool.false_eq_true, if_false] at hR
      simp (maxSteps := 1000000) (disch := first | omega | (simp only [sizeAlloc, sizeDrew, sizeSet, sizePut] <;> omega) | fail) only [GS, TT_eq, TTl, Nat.reduceAdd, Nat.reduceMul, Nat.reduceSub, Nat.reduceDiv, Nat.reduceMod, Nat.reducePow, Nat.reduceEqDiff, ↓reduceIte, reduceCtorEq, Int.reduceToNat, Int.reduceAdd, Int.reduceSub, Int.reduceMul, cW, hko]
      exact hR _ hMW
    · have hf1 := hfa hko
      subst hf1
      simp only [hko, Bool.true_and] at hR
      simp (maxSteps := 1000000) (disch := first | omega | (simp only [sizeAlloc, sizeDrew, sizeSet, sizePut] <;> omega) | fail) only [GS, TT_eq, TTl, Nat.reduceAdd, Nat.reduceMul, Nat.reduceSub, Nat.reduceDiv, Nat.reduceMod, Nat.reducePow, Nat.reduceEqDiff, ↓reduceIte, reduceCtorEq, Int.reduceToNat, Int.reduceAdd, Int.reduceSub, Int.reduceMul, cW, hko]
      have hid := wIdle_cps ⟨k, (a, b, c), aud, mbs, body, yes, tag⟩ sa hl w6 (ha.mod hMW (by simp))
      unfold msgV msgC at hid
      simp only at hid
      refine ⟨fok58, hid _ fun w7 hM7 => .inl ⟨_, rfl, hold_ops okT (rs := [.tmp 2]) rfl ?_⟩⟩
      have hh7 := hM7.get hhW (by simp)
      have hb7 := hM7.get hbW (by simp)
      have hMx := hMW.trans hM7 (by simp)
      have c7 := fun o => cellOf (o := o) hh7
      have d7 := fun o => cellOf (o := o) hb7
      cases hi : idleB ⟨k, (a, b, c), aud, mbs, body, yes, tag⟩
      · simp only [hi, Bool.false_and, Bool.false_eq_true, if_false] at hR
        simp (maxSteps := 1000000) (disch := first | omega | (simp only [sizeAlloc, sizeDrew, sizeSet, sizePut] <;> omega) | fail) only [GS, TT_eq, TTl, Nat.reduceAdd, Nat.reduceMul, Nat.reduceSub, Nat.reduceDiv, Nat.reduceMod, Nat.reducePow, Nat.reduceEqDiff, ↓reduceIte, reduceCtorEq, Int.reduceToNat, Int.reduceAdd, Int.reduceSub, Int.reduceMul, c7, hi]
        exact hR _ hMx
      · simp only [hi, Bool.true_and] at hR
        by_cases h6 : (k : Int) = 6
        · have h6n : k = 6 := by omega
          rw [decide_eq_true h6n] at hR
          simp only [Bool.true_or, Bool.true_and] at hR
          simp only [h6] at hfo
          simp (maxSteps := 1000000) (disch := first | omega | (simp only [sizeAlloc, sizeDrew, sizeSet, sizePut] <;> omega) | fail) only [GS, TT_eq, TTl, Nat.reduceAdd, Nat.reduceMul, Nat.reduceSub, Nat.reduceDiv, Nat.reduceMod, Nat.reducePow, Nat.reduceEqDiff, ↓reduceIte, reduceCtorEq, Int.reduceToNat, Int.reduceAdd, Int.reduceSub, Int.reduceMul, c7, d7, hi, h6]
          refine ⟨fn_ok k, hfo _ (ha.mod hMx (by simp)) _ fun w9 hM9 => .inl ⟨_, rfl, hold_ops okT (rs := [.tmp 2]) rfl ?_⟩⟩
          have hMy := (hMx).trans hM9 (by simp)
          cases hfb : formB k ⟨k, (a, b, c), aud, mbs, body, yes, tag⟩
          · simp only [hfb, Bool.false_eq_true, if_false] at hR
            rw [h6] at hfb
            simp (maxSteps := 1000000) (disch := first | omega | (simp only [sizeAlloc, sizeDrew, sizeSet, sizePut] <;> omega) | fail) only [GS, TT_eq, TTl, Nat.reduceAdd, Nat.reduceMul, Nat.reduceSub, Nat.reduceDiv, Nat.reduceMod, Nat.reducePow, Nat.reduceEqDiff, ↓reduceIte, reduceCtorEq, Int.reduceToNat, Int.reduceAdd, Int.reduceSub, Int.reduceMul, hfb]
            exact hR _ hMy
          · simp only [hfb, if_true] at hR
            rw [h6] at hfb
            simp (maxSteps := 1000000) (disch := first | omega | (simp only [sizeAlloc, sizeDrew, sizeSet, sizePut] <;> omega) | fail) only [GS, TT_eq, TTl, Nat.reduceAdd, Nat.reduceMul, Nat.reduceSub, Nat.reduceDiv, Nat.reduceMod, Nat.reducePow, Nat.reduceEqDiff, ↓reduceIte, reduceCtorEq, Int.reduceToNat, Int.reduceAdd, Int.reduceSub, Int.reduceMul, hfb]
            exact hR _ hMy
        · have h6n : ¬ k = 6 := by omega
          rw [decide_eq_false h6n] at hR
          simp only [Bool.false_or] at hR
          simp (maxSteps := 1000000) (disch := first | omega | (simp only [sizeAlloc, sizeDrew, sizeSet, sizePut] <;> omega) | fail) only [GS, TT_eq, TTl, Nat.reduceAdd, Nat.reduceMul, Nat.reduceSub, Nat.reduceDiv, Nat.reduceMod, Nat.reducePow, Nat.reduceEqDiff, ↓reduceIte, reduceCtorEq, Int.reduceToNat, Int.reduceAdd, Int.reduceSub, Int.reduceMul, c7, d7, hi, h6]
          refine ⟨fok46, wMayTxn_cps (a, b, c) _ _ fun w8 hM8 => .inl ⟨_, rfl, hold_ops okT (rs := [.tmp 2]) rfl ?_⟩⟩
          have hh8 := hM8.get hh7 (by simp)
          have hb8 := hM8.get hb7 (by simp)
          have hMz := hMx.trans hM8 (by simp)
          have c8 := fun o => cellOf (o := o) hh8
          have d8 := fun o => cellOf (o := o) hb8
          cases htx : txB (a, b, c)
          · simp only [htx, Bool.false_and, Bool.false_eq_true, if_false] at hR
            simp (maxSteps := 1000000) (disch := first | omega | (simp only [sizeAlloc, sizeDrew, sizeSet, sizePut] <;> omega) | fail) only [GS, TT_eq, TTl, Nat.reduceAdd, Nat.reduceMul, Nat.reduceSub, Nat.reduceDiv, Nat.reduceMod, Nat.reducePow, Nat.reduceEqDiff, ↓reduceIte, reduceCtorEq, Int.reduceToNat, Int.reduceAdd, Int.reduceSub, Int.reduceMul, c8, d8, hi, h6, htx]
            exact hR _ hMz
          · simp only [htx, Bool.true_and] at hR
            simp (maxSteps := 1000000) (disch := first | omega | (simp only [sizeAlloc, sizeDrew, sizeSet, sizePut] <;> omega) | fail) only [GS, TT_eq, TTl, Nat.reduceAdd, Nat.reduceMul, Nat.reduceSub, Nat.reduceDiv, Nat.reduceMod, Nat.reducePow, Nat.reduceEqDiff, ↓reduceIte, reduceCtorEq, Int.reduceToNat, Int.reduceAdd, Int.reduceSub, Int.reduceMul, c8, d8, hi, h6, htx]
            refine ⟨fn_ok k, hfo _ (ha.mod hMz (by simp)) _ fun w9 hM9 => .inl ⟨_, rfl, hold_ops okT (rs := [.tmp 2]) rfl ?_⟩⟩
            have hMy := (hMz).trans hM9 (by simp)
            cases hfb : formB k ⟨k, (a, b, c), aud, mbs, body, yes, tag⟩
            · simp only [hfb, Bool.false_eq_true, if_false] at hR
              simp (maxSteps := 1000000) (disch := first | omega | (simp only [sizeAlloc, sizeDrew, sizeSet, sizePut] <;> omega) | fail) only [GS, TT_eq, TTl, Nat.reduceAdd, Nat.reduceMul, Nat.reduceSub, Nat.reduceDiv, Nat.reduceMod, Nat.reducePow, Nat.reduceEqDiff, ↓reduceIte, reduceCtorEq, Int.reduceToNat, Int.reduceAdd, Int.reduceSub, Int.reduceMul, hfb]
              exact hR _ hMy
            · simp only [hfb, if_true] at hR
              simp (maxSteps := 1000000) (disch := first | omega | (simp only [sizeAlloc, sizeDrew, sizeSet, sizePut] <;> omega) | fail) only [GS, TT_eq, TTl, Nat.reduceAdd, Nat.reduceMul, Nat.reduceSub, Nat.reduceDiv, Nat.reduceMod, Nat.reducePow, Nat.reduceEqDiff, ↓reduceIte, reduceCtorEq, Int.reduceToNat, Int.reduceAdd, Int.reduceSub, Int.reduceMul, hfb]
              exact hR _ hMy
  · refine ht_eff okT rfl rfl (v := .pointer (some ⟨w2.heap.size, 0, none⟩)) (w' := w2.alloc (.cells #[.string ⟨#[]⟩, .int .i64 0, .int .i64 0, .nilFunc, .nilFunc, .nilFunc] 102)) (by simp (maxSteps := 1000000) only [GS, TT_eq, TTl, Nat.reduceAdd, Nat.reduceMul, Nat.reduceSub, Nat.reduceDiv, Nat.reduceMod, Nat.reducePow, Nat.reduceEqDiff, ↓reduceIte, reduceCtorEq, Int.reduceToNat, Int.reduceAdd, Int.reduceSub, Int.reduceMul]) ?_ ?_ ht_stop
    all_goals have hMa := (Mod.refl [] w2).alloc (.cells #[.string ⟨#[]⟩, .int .i64 0, .int .i64 0, .nilFunc, .nilFunc, .nilFunc] 102)
    all_goals have hka := heapNew (w := w2) (o := (.cells #[.string ⟨#[]⟩, .int .i64 0, .int .i64 0, .nilFunc, .nilFunc, .nilFunc] 102))
    all_goals generalize w2.alloc (.cells #[.string ⟨#[]⟩, .int .i64 0, .int .i64 0, .nilFunc, .nilFunc, .nilFunc] 102) = w3 at hMa hka ⊢
    · simp (maxSteps := 1000000) only [GS, TT_eq, TTl, Nat.reduceAdd, Nat.reduceMul, Nat.reduceSub, Nat.reduceDiv, Nat.reduceMod, Nat.reducePow, Nat.reduceEqDiff, ↓reduceIte, reduceCtorEq, Int.reduceToNat, Int.reduceAdd, Int.reduceSub, Int.reduceMul]
      exact cellM (c2 0) hMa
    have hh3 := hMa.get hh1 (by simp)
    have hM3 := hM1.trans hMa (by simp)
    have c3 := fun o => cellOf (o := o) hh3
    have hnb : n < w2.heap.size := (Array.getElem?_eq_some_iff.1 hh1).1
    have hwb := hM1.size
    generalize w2.heap.size = b4 at hka hnb hwb ⊢
    simp (maxSteps := 1000000) only [GS, TT_eq, TTl, Nat.reduceAdd, Nat.reduceMul, Nat.reduceSub, Nat.reduceDiv, Nat.reduceMod, Nat.reducePow, Nat.reduceEqDiff, ↓reduceIte, reduceCtorEq, Int.reduceToNat, Int.reduceAdd, Int.reduceSub, Int.reduceMul]
    refine ht_lin rfl (hold_dops okT (rs := [.tmp 2]) rfl ?_)
    simp (maxSteps := 1000000) (disch := first | omega | (simp only [sizeAlloc, sizeDrew, sizeSet, sizePut] <;> omega) | fail) only [GS, TT_eq, TTl, Nat.reduceAdd, Nat.reduceMul, Nat.reduceSub, Nat.reduceDiv, Nat.reduceMod, Nat.reducePow, Nat.reduceEqDiff, ↓reduceIte, reduceCtorEq, Int.reduceToNat, Int.reduceAdd, Int.reduceSub, Int.reduceMul, c3]
    refine ⟨fok57, wKinds_cps _ _ fun m w4 hm hmn hM => .inl ⟨_, rfl, cellM (c3 0) hM, hold_dops okT (rs := [.tmp 2]) rfl ?_⟩⟩
    have hh4 := hM.get hh3 (by simp)
    have hk4 := hM.get hka (by simp)
    have hM4 := hM3.trans hM (by simp)
    have c4 := fun o => cellOf (o := o) hh4
    have hl0 := look_w true hm.at hk
    rw [e] at hl0
    simp only [if_true] at hl0
    simp (maxSteps := 1000000) (disch := first | omega | (simp only [sizeAlloc, sizeDrew, sizeSet, sizePut] <;> omega) | fail) only [GS, TT_eq, TTl, Nat.reduceAdd, Nat.reduceMul, Nat.reduceSub, Nat.reduceDiv, Nat.reduceMod, Nat.reducePow, Nat.reduceEqDiff, ↓reduceIte, reduceCtorEq, Int.reduceToNat, Int.reduceAdd, Int.reduceSub, Int.reduceMul, hl0, c4, oa, ob, oc, cellOf hk4, frozenOf hk4]
    have hbW := st6 hk4 (x := .string ⟨(wordS k).toArray⟩) (y := .int .i64 mn) (z := .int .i64 mx) (u := fa) (v := fb) (q := fc)
    have hhW : (((((((w4).setCell ⟨b4, 0, none⟩ (.string ⟨(wordS k).toArray⟩)).setCell ⟨b4, 1, none⟩ (.int .i64 mn)).setCell ⟨b4, 2, none⟩ (.int .i64 mx)).setCell ⟨b4, 3, none⟩ fa).setCell ⟨b4, 4, none⟩ fb).setCell ⟨b4, 5, none⟩ fc).heap[n]? = _ := (heapSetNe (heapSetNe (heapSetNe (heapSetNe (heapSetNe (heapSetNe hh4 (by omega)) (by omega)) (by omega)) (by omega)) (by omega)) (by omega))
    have hMW : Mod [] w _ := ((((((hM4.set (p := ⟨b4, 0, none⟩) (.inr hwb) (.string ⟨(wordS k).toArray⟩)).set (p := ⟨b4, 1, none⟩) (.inr hwb) (.int .i64 mn)).set (p := ⟨b4, 2, none⟩) (.inr hwb) (.int .i64 mx)).set (p := ⟨b4, 3, none⟩) (.inr hwb) fa).set (p := ⟨b4, 4, none⟩) (.inr hwb) fb).set (p := ⟨b4, 5, none⟩) (.inr hwb) fc)
    revert hbW hhW hMW
    generalize (((((((w4).setCell ⟨b4, 0, none⟩ (.string ⟨(wordS k).toArray⟩)).setCell ⟨b4, 1, none⟩ (.int .i64 mn)).setCell ⟨b4, 2, none⟩ (.int .i64 mx)).setCell ⟨b4, 3, none⟩ fa).setCell ⟨b4, 4, none⟩ fb).setCell ⟨b4, 5, none⟩ fc) = w6
    intro hbW hhW hMW
    have cW := fun o => cellOf (o := o) hhW
    cases hko : kdOk k
    · simp only [hko, Bool.false_and, Bool.false_eq_true, if_false] at hR
      simp (maxSteps := 1000000) (disch := first | omega | (simp only [sizeAlloc, sizeDrew, sizeSet, sizePut] <;> omega) | fail) only [GS, TT_eq, TTl, Nat.reduceAdd, Nat.reduceMul, Nat.reduceSub, Nat.reduceDiv, Nat.reduceMod, Nat.reducePow, Nat.reduceEqDiff, ↓reduceIte, reduceCtorEq, Int.reduceToNat, Int.reduceAdd, Int.reduceSub, Int.reduceMul, cW, hko]
      exact hR _ hMW
    · have hf1 := hfa hko
      subst hf1
      simp only [hko, Bool.true_and] at hR
      simp (maxSteps := 1000000) (disch := first | omega | (simp only [sizeAlloc, sizeDrew, sizeSet, sizePut] <;> omega) | fail) only [GS, TT_eq, TTl, Nat.reduceAdd, Nat.reduceMul, Nat.reduceSub, Nat.reduceDiv, Nat.reduceMod, Nat.reducePow, Nat.reduceEqDiff, ↓reduceIte, reduceCtorEq, Int.reduceToNat, Int.reduceAdd, Int.reduceSub, Int.reduceMul, cW, hko]
      have hid := wIdle_cps ⟨k, (a, b, c), aud, mbs, body, yes, tag⟩ sa hl w6 (ha.mod hMW (by simp))
      unfold msgV msgC at hid
      simp only at hid
      refine ⟨fok58, hid _ fun w7 hM7 => .inl ⟨_, rfl, hold_ops okT (rs := [.tmp 2]) rfl ?_⟩⟩
      have hh7 := hM7.get hhW (by simp)
      have hb7 := hM7.get hbW (by simp)
      have hMx := hMW.trans hM7 (by simp)
      have c7 := fun o => cellOf (o := o) hh7
      have d7 := fun o => cellOf (o := o) hb7
      cases hi : idleB ⟨k, (a, b, c), aud, mbs, body, yes, tag⟩
      · simp only [hi, Bool.false_and, Bool.false_eq_true, if_false] at hR
        simp (maxSteps := 1000000) (disch := first | omega | (simp only [sizeAlloc, sizeDrew, sizeSet, sizePut] <;> omega) | fail) only [GS, TT_eq, TTl, Nat.reduceAdd, Nat.reduceMul, Nat.reduceSub, Nat.reduceDiv, Nat.reduceMod, Nat.reducePow, Nat.reduceEqDiff, ↓reduceIte, reduceCtorEq, Int.reduceToNat, Int.reduceAdd, Int.reduceSub, Int.reduceMul, c7, hi]
        exact hR _ hMx
      · simp only [hi, Bool.true_and] at hR
        by_cases h6 : (k : Int) = 6
        · have h6n : k = 6 := by omega
          rw [decide_eq_true h6n] at hR
          simp only [Bool.true_or, Bool.true_and] at hR
          simp only [h6] at hfo
          simp (maxSteps := 1000000) (disch := first | omega | (simp only [sizeAlloc, sizeDrew, sizeSet, sizePut] <;> omega) | fail) only [GS, TT_eq, TTl, Nat.reduceAdd, Nat.reduceMul, Nat.reduceSub, Nat.reduceDiv, Nat.reduceMod, Nat.reducePow, Nat.reduceEqDiff, ↓reduceIte, reduceCtorEq, Int.reduceToNat, Int.reduceAdd, Int.reduceSub, Int.reduceMul, c7, d7, hi, h6]
          refine ⟨fn_ok k, hfo _ (ha.mod hMx (by simp)) _ fun w9 hM9 => .inl ⟨_, rfl, hold_ops okT (rs := [.tmp 2]) rfl ?_⟩⟩
          have hMy := (hMx).trans hM9 (by simp)
          cases hfb : formB k ⟨k, (a, b, c), aud, mbs, body, yes, tag⟩
          · simp only [hfb, Bool.false_eq_true, if_false] at hR
            rw [h6] at hfb
            simp (maxSteps := 1000000) (disch := first | omega | (simp only [sizeAlloc, sizeDrew, sizeSet, sizePut] <;> omega) | fail) only [GS, TT_eq, TTl, Nat.reduceAdd, Nat.reduceMul, Nat.reduceSub, Nat.reduceDiv, Nat.reduceMod, Nat.reducePow, Nat.reduceEqDiff, ↓reduceIte, reduceCtorEq, Int.reduceToNat, Int.reduceAdd, Int.reduceSub, Int.reduceMul, hfb]
            exact hR _ hMy
          · simp only [hfb, if_true] at hR
            rw [h6] at hfb
            simp (maxSteps := 1000000) (disch := first | omega | (simp only [sizeAlloc, sizeDrew, sizeSet, sizePut] <;> omega) | fail) only [GS, TT_eq, TTl, Nat.reduceAdd, Nat.reduceMul, Nat.reduceSub, Nat.reduceDiv, Nat.reduceMod, Nat.reducePow, Nat.reduceEqDiff, ↓reduceIte, reduceCtorEq, Int.reduceToNat, Int.reduceAdd, Int.reduceSub, Int.reduceMul, hfb]
            exact hR _ hMy
        · have h6n : ¬ k = 6 := by omega
          rw [decide_eq_false h6n] at hR
          simp only [Bool.false_or] at hR
          simp (maxSteps := 1000000) (disch := first | omega | (simp only [sizeAlloc, sizeDrew, sizeSet, sizePut] <;> omega) | fail) only [GS, TT_eq, TTl, Nat.reduceAdd, Nat.reduceMul, Nat.reduceSub, Nat.reduceDiv, Nat.reduceMod, Nat.reducePow, Nat.reduceEqDiff, ↓reduceIte, reduceCtorEq, Int.reduceToNat, Int.reduceAdd, Int.reduceSub, Int.reduceMul, c7, d7, hi, h6]
          refine ⟨fok46, wMayTxn_cps (a, b, c) _ _ fun w8 hM8 => .inl ⟨_, rfl, hold_ops okT (rs := [.tmp 2]) rfl ?_⟩⟩
          have hh8 := hM8.get hh7 (by simp)
          have hb8 := hM8.get hb7 (by simp)
          have hMz := hMx.trans hM8 (by simp)
          have c8 := fun o => cellOf (o := o) hh8
          have d8 := fun o => cellOf (o := o) hb8
          cases htx : txB (a, b, c)
          · simp only [htx, Bool.false_and, Bool.false_eq_true, if_false] at hR
            simp (maxSteps := 1000000) (disch := first | omega | (simp only [sizeAlloc, sizeDrew, sizeSet, sizePut] <;> omega) | fail) only [GS, TT_eq, TTl, Nat.reduceAdd, Nat.reduceMul, Nat.reduceSub, Nat.reduceDiv, Nat.reduceMod, Nat.reducePow, Nat.reduceEqDiff, ↓reduceIte, reduceCtorEq, Int.reduceToNat, Int.reduceAdd, Int.reduceSub, Int.reduceMul, c8, d8, hi, h6, htx]
            exact hR _ hMz
          · simp only [htx, Bool.true_and] at hR
            simp (maxSteps := 1000000) (disch := first | omega | (simp only [sizeAlloc, sizeDrew, sizeSet, sizePut] <;> omega) | fail) only [GS, TT_eq, TTl, Nat.reduceAdd, Nat.reduceMul, Nat.reduceSub, Nat.reduceDiv, Nat.reduceMod, Nat.reducePow, Nat.reduceEqDiff, ↓reduceIte, reduceCtorEq, Int.reduceToNat, Int.reduceAdd, Int.reduceSub, Int.reduceMul, c8, d8, hi, h6, htx]
            refine ⟨fn_ok k, hfo _ (ha.mod hMz (by simp)) _ fun w9 hM9 => .inl ⟨_, rfl, hold_ops okT (rs := [.tmp 2]) rfl ?_⟩⟩
            have hMy := (hMz).trans hM9 (by simp)
            cases hfb : formB k ⟨k, (a, b, c), aud, mbs, body, yes, tag⟩
            · simp only [hfb, Bool.false_eq_true, if_false] at hR
              simp (maxSteps := 1000000) (disch := first | omega | (simp only [sizeAlloc, sizeDrew, sizeSet, sizePut] <;> omega) | fail) only [GS, TT_eq, TTl, Nat.reduceAdd, Nat.reduceMul, Nat.reduceSub, Nat.reduceDiv, Nat.reduceMod, Nat.reducePow, Nat.reduceEqDiff, ↓reduceIte, reduceCtorEq, Int.reduceToNat, Int.reduceAdd, Int.reduceSub, Int.reduceMul, hfb]
              exact hR _ hMy
            · simp only [hfb, if_true] at hR
              simp (maxSteps := 1000000) (disch := first | omega | (simp only [sizeAlloc, sizeDrew, sizeSet, sizePut] <;> omega) | fail) only [GS, TT_eq, TTl, Nat.reduceAdd, Nat.reduceMul, Nat.reduceSub, Nat.reduceDiv, Nat.reduceMod, Nat.reducePow, Nat.reduceEqDiff, ↓reduceIte, reduceCtorEq, Int.reduceToNat, Int.reduceAdd, Int.reduceSub, Int.reduceMul, hfb]
              exact hR _ hMy
end Go.Proofs.Ytpcilobbohokcaa
set_option linter.unusedSimpArgs false
set_option linter.unusedVariables false
namespace Go.Proofs.Ytpcilobbohokcaa
open Go Go.Wk Go.RowKit
attribute [local irreducible] go Hold
open Go.Lib
end Go.Proofs.Ytpcilobbohokcaa
set_option linter.unusedSimpArgs false
set_option linter.unusedVariables false
namespace Go.Proofs.Ytpcilobbohokcaa
open Go Go.Wk Go.RowKit
attribute [local irreducible] go Hold
open Go.Lib
end Go.Proofs.Ytpcilobbohokcaa
set_option linter.unusedSimpArgs false
set_option linter.unusedVariables false
namespace Go.Proofs.Ytpcilobbohokcaa
open Go Go.Wk Go.RowKit
attribute [local irreducible] go Hold
open Go.Lib
def m0 (k : Int) (x : Tx) : Msg := ⟨k, x, 0, [], [], false, []⟩
end Go.Proofs.Ytpcilobbohokcaa
set_option linter.unusedSimpArgs false
set_option linter.unusedVariables false
namespace Go.Proofs.Ytpcilobbohokcaa
open Go Go.Wk Go.RowKit
attribute [local irreducible] go Hold
open Go.Lib
end Go.Proofs.Ytpcilobbohokcaa
set_option linter.unusedSimpArgs false
set_option linter.unusedVariables false
namespace Go.Proofs.Ytpcilobbohokcaa
open Go Go.Wk Go.RowKit
attribute [local irreducible] go Hold
open Go.Lib
/-- What is known of a message that comes in. -/
structure MsgIn (w : World) (m : Msg) (sa : Value) : Prop where
  kind : ∃ k : Nat, m.k = k ∧ k < 256
  t1 : I64 m.tx.1
  t2 : I64 m.tx.2.1
  t3 : I64 m.tx.2.2
  aud : I64 m.aud
  mbs : MbsIn w sa m.mbs
  body : m.body.length ≤ maxLen
  tag : m.tag.length ≤ maxLen
section
variable {H : Type} {enc : TypeId × Value → H} {w : World} {base : Nat} {spare : Nat → Bool} {held : Bool}
theorem cells9 {cs : List Value} (hl : cs.length = 9) : ∃ k0 k1 k2 k3 k4 k5 k6 k7 k8, cs = [k0, k1, k2, k3, k4, k5, k6, k7, k8] := by
  match cs, hl with
  | [k0, k1, k2, k3, k4, k5, k6, k7, k8], _ => exact ⟨_, _, _, _, _, _, _, _, _, rfl⟩
set_option maxHeartbeats 2000000 in
theorem msg_el : ∀ n cs y, DataW.trod enc Try.prog w base spare held n 42 cs = some y → ∃ (m : Msg) (sa : Value), cs = msgC m sa ∧ MsgIn w m sa := by
  intro n cs y h
  obtain ⟨hl, hf⟩ := el_field Try.underlying42 h
  rw [show Try.prog.cellsOf 42 = 9 from by kernel_rfl] at hl
  obtain ⟨m0, z0, e0⟩ := hf 0 _ rfl
  obtain ⟨m1, z1, e1⟩ := hf 1 _ rfl
  obtain ⟨m2, z2, e2⟩ := hf 2 _ rfl
  obtain ⟨m3, z3, e3⟩ := hf 3 _ rfl
  obtain ⟨m4, z4, e4⟩ := hf 4 _ rfl
  obtain ⟨m5, z5, e5⟩ := hf 5 _ rfl
  obtain ⟨m6, z6, e6⟩ := hf 6 _ rfl
  obtain ⟨a0, f0, _, g0⟩ := DataW.trod_int Try.underlying5 e0
  obtain ⟨a1, f1, t1, t2, t3⟩ := tx_el _ _ _ e1
  obtain ⟨a2, f2, _, g2⟩ := DataW.trod_int Try.underlying3 e2
  obtain ⟨sa, l, f3, hm⟩ := mbs_in e3
  obtain ⟨a4, f4, _, g4⟩ := DataW.trod_string Try.underlying9 e4
  obtain ⟨a5, f5, _⟩ := DataW.trod_bool Try.underlying4 e5
  obtain ⟨a6, f6, _, g6⟩ := DataW.trod_string Try.underlying9 e6
  have f0 : List.take (Try.prog.cellsOf 5) (List.drop 0 cs) = _ := f0
  have f1 : List.take (Try.prog.cellsOf 23) (List.drop 1 cs) = _ := f1
  have f2 : List.take (Try.prog.cellsOf 3) (List.drop 4 cs) = _ := f2
  have f3 : List.take (Try.prog.cellsOf 24) (List.drop 5 cs) = _ := f3
  have f4 : List.take (Try.prog.cellsOf 9) (List.drop 6 cs) = _ := f4
  have f5 : List.take (Try.prog.cellsOf 4) (List.drop 7 cs) = _ := f5
  have f6 : List.take (Try.prog.cellsOf 9) (List.drop 8 cs) = _ := f6
  rw [show Try.prog.cellsOf 5 = 1 from by kernel_rfl] at f0
  rw [show Try.prog.cellsOf 23 = 3 from by kernel_rfl] at f1
  rw [show Try.prog.cellsOf 3 = 1 from by kernel_rfl] at f2
  rw [show Try.prog.cellsOf 24 = 1 from by kernel_rfl] at f3
  rw [show Try.prog.cellsOf 9 = 1 from by kernel_rfl] at f4 f6
  rw [show Try.prog.cellsOf 4 = 1 from by kernel_rfl] at f5
  obtain ⟨k0, k1, k2, k3, k4, k5, k6, k7, k8, rfl⟩ := cells9 hl
  clear e0 e1 e2 e3 e4 e5 e6 hf h
  unfold txC at f1
  simp only [List.drop_succ_cons, List.drop_zero, List.take_succ_cons, List.take_zero, List.cons.injEq, and_true] at f0 f1 f2 f3 f4 f5 f6
  have q0 := wf_u8 g0
  refine ⟨⟨((a0.toNat : Nat) : Int), a1, a2, l, a4.data.toList, a5, a6.data.toList⟩, sa, ?_, ⟨⟨a0.toNat, rfl, by omega⟩, t1, t2, t3, wf_i64 g2, hm, ?_, ?_⟩⟩
  · have e0 : ((a0.toNat : Nat) : Int) = a0 := Int.toNat_of_nonneg q0.1
    unfold msgC
    simp only
    rw [e0, byL, byL, f0, f1.1, f1.2.1, f1.2.2, f2, f3, f4, f5, f6]
  · show a4.data.toList.length ≤ maxLen
    rw [Array.length_toList]
    exact g4
  · show a6.data.toList.length ≤ maxLen
    rw [Array.length_toList]
    exact g6
end
end Go.Proofs.Ytpcilobbohokcaa
