/-
  wire: a lookup in the table of forms; Word (walk). wire.Check (walk). wire: a form's writer, whichever (walk). wire: a form's reader, whichever (walk). wire: a form's reader, whichever (walk). wire: what is encoded is decoded, and what is decoded is encoded as it was (plain). wire: a message that comes in.
-/
import Derived.Test.YtdflchgfhmjhbaaGreatDoorQoZ9
import Derived.Test.YtdflchgfhmjhbaaGreatDoorQoMap
import Derived.Test.YtdflchgfhmjhbaaGreatDoorQoZ6
set_option linter.unusedSimpArgs false
set_option linter.unusedVariables false
namespace Go.Proofs.YtdflchgfhmjhbaaGreatDoor
set_option maxHeartbeats 8000000
set_option maxRecDepth 20000
open Go Go.Wk Go.RowKit
attribute [local irreducible] go Hold
open Go.Lib
def kd0 : Value := .agg #[.string ⟨#[]⟩, .int .i64 0, .int .i64 0, .nilFunc, .nilFunc, .nilFunc]
def kdAt (k : Nat) : Value := match mfind (.int .u8 k) kindsL with
  | some v => v
  | none => kd0
def kdOk (k : Nat) : Bool := decide (1 ≤ k ∧ k ≤ 6)
theorem look_w {w : World} {r k : Nat} (ok : Bool) (h : MapAt w r kindsL) (hk : k < 256) : lookV TT 170 (.map (some r)) (.int .u8 k) ok w = some (if ok then .tuple #[kdAt k, .bool (kdOk k)] else kdAt k) := by
  have hl := look_at (T := TT) (t := 170) (i := .int .u8 k) (ok := ok) h rfl
  by_cases h9 : 1 ≤ k ∧ k ≤ 6
  · obtain ⟨h1, h2⟩ := h9
    have : k = 1 ∨ k = 2 ∨ k = 3 ∨ k = 4 ∨ k = 5 ∨ k = 6 := by omega
    rcases this with rfl | rfl | rfl | rfl | rfl | rfl <;> (rw [hl]; cases ok <;> rfl)
  · rw [hl]
    have hf : mfind (.int .u8 k) kindsL = none := by
      unfold kindsL
      simp only [mfind, eqKey]
      repeat (rw [decide_eq_false (by omega)]; simp only [cond_false])
    show cond (keyB (kOf TT 5) (.int .u8 k)) (cond (keysB (kOf TT 5) (kindsL.map (·.1))) (some (lookR ok _ (mfind (.int .u8 k) kindsL))) none) none = _
    have hko : kdOk k = false := by unfold kdOk; exact decide_eq_false h9
    unfold kdAt
    rw [hf, hko]
    have hkb : keyB (kOf TT 5) (.int .u8 k) = true := rfl
    rw [hkb]
    cases ok <;> rfl
def wordS (k : Nat) : List UInt8 := match k with
  | 1 => [112, 114, 101, 112, 97, 114, 101]
  | 2 => [118, 111, 116, 101]
  | 3 => [100, 101, 99, 105, 115, 105, 111, 110]
  | 4 => [97, 99, 107]
  | 5 => [113, 117, 101, 114, 121]
  | 6 => [104, 101, 108, 108, 111]
  | _ => []
theorem kdAt_eq (k : Nat) : ∃ mn mx a b c, kdAt k = .agg #[.string ⟨(wordS k).toArray⟩, .int .i64 mn, .int .i64 mx, a, b, c] ∧ a.oneCell' = true ∧ b.oneCell' = true ∧ c.oneCell' = true := by
  by_cases h9 : 1 ≤ k ∧ k ≤ 6
  · obtain ⟨h1, h2⟩ := h9
    have : k = 1 ∨ k = 2 ∨ k = 3 ∨ k = 4 ∨ k = 5 ∨ k = 6 := by omega
    rcases this with rfl | rfl | rfl | rfl | rfl | rfl <;> exact ⟨_, _, _, _, _, rfl, rfl, rfl, rfl⟩
  · have hf : mfind (.int .u8 k) kindsL = none := by
      unfold kindsL
      simp only [mfind, eqKey]
      repeat (rw [decide_eq_false (by omega)]; simp only [cond_false])
    have hw : wordS k = [] := by unfold wordS; split <;> first | omega | rfl
    unfold kdAt
    rw [hf, hw]
    exact ⟨_, _, _, _, _, rfl, rfl, rfl, rfl⟩
def fnAt (k : Nat) : Nat := match k with
  | 1 => 117
  | 2 => 122
  | 3 => 128
  | _ => 154
def formB (k : Nat) (m : Msg) : Bool := match k with
  | 1 => k1B m
  | 2 => k4B m
  | _ => true
theorem fn_ok (k : Nat) : FOk Tryz.prog (fnAt k) := by
  unfold fnAt
  split
  · exact fok117
  · exact fok122
  · exact fok128
  · exact fok154
theorem wForm_cps (k : Nat) (m : Msg) (sa : Value) (hB : m.body.length ≤ maxLen) (hT : m.tag.length ≤ maxLen) (hl : m.mbs.length ≤ 1000000) (hd : ∀ x ∈ m.mbs, x.2.length ≤ maxLen) (w : World) (ha : Rd w 2 sa m.mbs.length (m.mbs.flatMap mbC)) (R : Ending → World → Prop) (hR : ∀ w', Mod [] w w' → R (.returned (.bool (formB k m))) w') : Calls Tryz.prog (fnAt k) #[msgV m sa] w R := by
  unfold fnAt
  unfold formB at hR
  split at hR
  · exact wK1_cps m sa hB hl hd w ha R hR
  · exact wK4_cps m sa hT w R hR
  · rename_i h1 h2
    split
    · exact absurd rfl h1
    · exact absurd rfl h2
    · exact wK7_cps m sa w R hR
    · exact wP1_cps m sa w R hR
theorem kdAt_fn (k : Nat) (h : 1 ≤ k ∧ k ≤ 6) : ∃ mn mx b c, kdAt k = .agg #[.string ⟨(wordS k).toArray⟩, .int .i64 mn, .int .i64 mx, .func (.func (fnAt k)) #[] #[], b, c] ∧ b.oneCell' = true ∧ c.oneCell' = true := by
  obtain ⟨h1, h2⟩ := h
  have : k = 1 ∨ k = 2 ∨ k = 3 ∨ k = 4 ∨ k = 5 ∨ k = 6 := by omega
  rcases this with rfl | rfl | rfl | rfl | rfl | rfl <;> exact ⟨_, _, _, _, rfl, rfl, rfl⟩
def checkB (k : Nat) (m : Msg) : Bool := kdOk k && idleB m && (decide (k = 6) || txB m.tx) && formB k m
def checkE (k : Nat) (m : Msg) : Int := if checkB k m = true then 0 else 2
theorem wCheck_cps (m : Msg) (k : Nat) (hk0 : m.k = k) (hk : k < 256) (sa : Value) (hB : m.body.length ≤ maxLen) (hT : m.tag.length ≤ maxLen) (hl : m.mbs.length ≤ 1000000) (hd : ∀ x ∈ m.mbs, x.2.length ≤ maxLen) (w : World) (ha : Rd w 2 sa m.mbs.length (m.mbs.flatMap mbC)) (R : Ending → World → Prop) (hR : ∀ w', Mod [] w w' → R (.returned (.int .i64 (checkE k m))) w') : Calls Tryz.prog 86 #[msgV m sa] w R := by
  obtain ⟨k', ⟨a, b, c⟩, aud, mbs, body, yes, tag⟩ := m
  simp only at hk0; subst hk0
  unfold checkE checkB at hR
  have hfo := wForm_cps k ⟨k, (a, b, c), aud, mbs, body, yes, tag⟩ sa hB hT hl hd
  unfold msgV msgC at hfo ⊢
  simp only at hR hB hT hl hd ha hfo ⊢
  refine calls_go 4000 okT Tryz.func86 rfl (rs := [.tmp 2]) rfl Tryz.ntmps86 (args := [.agg #[.int .u8 k, .int .i64 a, .int .i64 b, .int .i64 c, .int .i64 aud, sa, .string ⟨body.toArray⟩, .bool yes, .string ⟨tag.toArray⟩]]) ?_
  simp (disch := first | omega | (simp only [SZ] <;> omega) | fail) only [GS, TT_eq, TTl, seval]
  have hM0 := (Mod.refl [] w).alloc (.cells #[.int .u8 k, .int .i64 a, .int .i64 b, .int .i64 c, .int .i64 aud, sa, .string ⟨body.toArray⟩, .bool yes, .string ⟨tag.toArray⟩] 59)
  have hh := heapNew (w := w) (o := (.cells #[.int .u8 k, .int .i64 a, .int .i64 b, .int .i64 c, .int .i64 aud, sa, .string ⟨body.toArray⟩, .bool yes, .string ⟨tag.toArray⟩] 59))
  generalize w.alloc (.cells #[.int .u8 k, .int .i64 a, .int .i64 b, .int .i64 c, .int .i64 aud, sa, .string ⟨body.toArray⟩, .bool yes, .string ⟨tag.toArray⟩] 59) = w1 at hM0 hh ⊢
  generalize hn : w.heap.size = n at *
  refine hold_tree okT [0, 0, 2, 7, 15, 31, 31, 0, 191, 511] (.qop 1 (.qop 2 (.eff 0 (.lin [3, 4, 5, 6, 7, 8, 9]) (.eff 7 (.lin [0, 3, 4, 5, 6, 8, 9]) .stop)))) (by kernel_rfl) ?_
  have hh1 : (w1.drewN 1).heap[n]? = _ := hh
  have hM1 := hM0.drewN 1
  generalize w1.drewN 1 = w2 at *
  have c2 := fun o => cellOf (o := o) hh1
  refine ht_val okT rfl rfl (v := .pointer (some ⟨n, 0, none⟩)) (by simp (disch := first | omega | (simp only [SZ] <;> omega) | fail) only [GS, TT_eq, TTl, seval]) ?_
  refine ht_val okT rfl rfl (v := .int .u8 k) (by simp (disch := first | omega | (simp only [SZ] <;> omega) | fail) only [GS, TT_eq, TTl, seval, c2]) ?_
  have hkd : ∃ mn mx fa fb fc, kdAt k = .agg #[.string ⟨(wordS k).toArray⟩, .int .i64 mn, .int .i64 mx, fa, fb, fc] ∧ fa.oneCell' = true ∧ fb.oneCell' = true ∧ fc.oneCell' = true ∧ (kdOk k = true → fa = .func (.func (fnAt k)) #[] #[]) := by
    by_cases h9 : 1 ≤ k ∧ k ≤ 6
    · obtain ⟨mn, mx, fb, fc, e, h2, h3⟩ := kdAt_fn k h9
      exact ⟨mn, mx, _, fb, fc, e, rfl, h2, h3, fun _ => rfl⟩
    · obtain ⟨mn, mx, fa, fb, fc, e, h1, h2, h3⟩ := kdAt_eq k
      exact ⟨mn, mx, fa, fb, fc, e, h1, h2, h3, fun h => absurd (of_decide_eq_true h) h9⟩
  obtain ⟨mn, mx, fa, fb, fc, e, oa, ob, oc, hfa⟩ := hkd
  refine ht_call okT rfl rfl ?_ ?_
  · simp (disch := first | omega | (simp only [SZ] <;> omega) | fail) only [GS, TT_eq, TTl, seval]
    refine ⟨fok87, wKinds_cps _ _ fun m w3 hm hmn hM => .inl ⟨_, rfl, cellM (c2 0) hM, ?_⟩⟩
    have hh3 := hM.get hh1 (by simp)
    have hM3 := hM1.trans hM (by simp)
    have c3 := fun o => cellOf (o := o) hh3
    refine ht_lin rfl (hold_dops okT (rs := [.tmp 2]) rfl ?_)
    have hl0 := look_w true hm.at hk
    rw [e] at hl0
    simp only [if_true] at hl0
    have hlt := hm.lt
    simp (disch := first | omega | (simp only [SZ] <;> omega) | fail) only [GS, TT_eq, TTl, seval, hl0, c3, oa, ob, oc]
    have hMa := (Mod.refl [] w3).alloc (.cells #[.string ⟨#[]⟩, .int .i64 0, .int .i64 0, .nilFunc, .nilFunc, .nilFunc] 169)
    refine ⟨⟨by rw [lookAlloc hlt]; exact hl0, cellM (c3 0) hMa⟩, ?_⟩
    have hnb : n < w3.heap.size := (Array.getElem?_eq_some_iff.1 hh3).1
    have hwb := hM3.size
    have hbW := st6 (heapNew (w := w3) (o := (.cells #[.string ⟨#[]⟩, .int .i64 0, .int .i64 0, .nilFunc, .nilFunc, .nilFunc] 169))) (x := .string ⟨(wordS k).toArray⟩) (y := .int .i64 mn) (z := .int .i64 mx) (u := fa) (v := fb) (q := fc)
    have hhW : (((((((w3.alloc (.cells #[.string ⟨#[]⟩, .int .i64 0, .int .i64 0, .nilFunc, .nilFunc, .nilFunc] 169)).setCell ⟨w3.heap.size, 0, none⟩ (.string ⟨(wordS k).toArray⟩)).setCell ⟨w3.heap.size, 1, none⟩ (.int .i64 mn)).setCell ⟨w3.heap.size, 2, none⟩ (.int .i64 mx)).setCell ⟨w3.heap.size, 3, none⟩ fa).setCell ⟨w3.heap.size, 4, none⟩ fb).setCell ⟨w3.heap.size, 5, none⟩ fc).heap[n]? = _ := (heapSetNe (heapSetNe (heapSetNe (heapSetNe (heapSetNe (heapSetNe (hMa.get hh3 (by simp)) (by omega)) (by omega)) (by omega)) (by omega)) (by omega)) (by omega))
    have hMW : Mod [] w _ := (((((((hM3.alloc (.cells #[.string ⟨#[]⟩, .int .i64 0, .int .i64 0, .nilFunc, .nilFunc, .nilFunc] 169)).set (p := ⟨w3.heap.size, 0, none⟩) (.inr hwb) (.string ⟨(wordS k).toArray⟩)).set (p := ⟨w3.heap.size, 1, none⟩) (.inr hwb) (.int .i64 mn)).set (p := ⟨w3.heap.size, 2, none⟩) (.inr hwb) (.int .i64 mx)).set (p := ⟨w3.heap.size, 3, none⟩) (.inr hwb) fa).set (p := ⟨w3.heap.size, 4, none⟩) (.inr hwb) fb).set (p := ⟨w3.heap.size, 5, none⟩) (.inr hwb) fc)
    revert hbW hhW hMW
    generalize (((((((w3.alloc (.cells #[.string ⟨#[]⟩, .int .i64 0, .int .i64 0, .nilFunc, .nilFunc, .nilFunc] 169)).setCell ⟨w3.heap.size, 0, none⟩ (.string ⟨(wordS k).toArray⟩)).setCell ⟨w3.heap.size, 1, none⟩ (.int .i64 mn)).setCell ⟨w3.heap.size, 2, none⟩ (.int .i64 mx)).setCell ⟨w3.heap.size, 3, none⟩ fa).setCell ⟨w3.heap.size, 4, none⟩ fb).setCell ⟨w3.heap.size, 5, none⟩ fc) = w6
    intro hbW hhW hMW
    generalize w3.heap.size = b4 at hnb hwb hbW ⊢
    have cW := fun o => cellOf (o := o) hhW
    cases hko : kdOk k
    · simp only [hko, Bool.false_and, Bool.false_eq_true, if_false] at hR
      simp (disch := first | omega | (simp only [SZ] <;> omega) | fail) only [GS, TT_eq, TTl, seval, cW, hko]
      exact hR _ hMW
    · have hf1 := hfa hko
      subst hf1
      simp only [hko, Bool.true_and] at hR
      simp (disch := first | omega | (simp only [SZ] <;> omega) | fail) only [GS, TT_eq, TTl, seval, cW, hko]
      have hid := wIdle_cps ⟨k, (a, b, c), aud, mbs, body, yes, tag⟩ sa hl w6 (ha.mod hMW (by simp))
      unfold msgV msgC at hid
      simp only at hid
      refine ⟨fok116, hid _ fun w7 hM7 => .inl ⟨_, rfl, hold_ops okT (rs := [.tmp 2]) rfl ?_⟩⟩
      have hh7 := hM7.get hhW (by simp)
      have hb7 := hM7.get hbW (by simp)
      have hMx := hMW.trans hM7 (by simp)
      have c7 := fun o => cellOf (o := o) hh7
      have d7 := fun o => cellOf (o := o) hb7
      cases hi : idleB ⟨k, (a, b, c), aud, mbs, body, yes, tag⟩
      · simp only [hi, Bool.false_and, Bool.false_eq_true, if_false] at hR
        simp (disch := first | omega | (simp only [SZ] <;> omega) | fail) only [GS, TT_eq, TTl, seval, c7, hi]
        exact hR _ hMx
      · simp only [hi, Bool.true_and] at hR
        by_cases h6 : (k : Int) = 6
        · have h6n : k = 6 := by omega
          rw [decide_eq_true h6n] at hR
          simp only [Bool.true_or, Bool.true_and] at hR
          simp only [h6] at hfo
          simp (disch := first | omega | (simp only [SZ] <;> omega) | fail) only [GS, TT_eq, TTl, seval, c7, d7, hi, h6]
          refine ⟨fn_ok k, hfo _ (ha.mod hMx (by simp)) _ fun w9 hM9 => .inl ⟨_, rfl, hold_ops okT (rs := [.tmp 2]) rfl ?_⟩⟩
          have hMy := (hMx).trans hM9 (by simp)
          cases hfb : formB k ⟨k, (a, b, c), aud, mbs, body, yes, tag⟩
          · simp only [hfb, Bool.false_eq_true, if_false] at hR
            rw [h6] at hfb
            simp (disch := first | omega | (simp only [SZ] <;> omega) | fail) only [GS, TT_eq, TTl, seval, hfb]
            exact hR _ hMy
          · simp only [hfb, if_true] at hR
            rw [h6] at hfb
            simp (disch := first | omega | (simp only [SZ] <;> omega) | fail) only [GS, TT_eq, TTl, seval, hfb]
            exact hR _ hMy
        · have h6n : ¬ k = 6 := by omega
          rw [decide_eq_false h6n] at hR
          simp only [Bool.false_or] at hR
          simp (disch := first | omega | (simp only [SZ] <;> omega) | fail) only [GS, TT_eq, TTl, seval, c7, d7, hi, h6]
          refine ⟨fok73, wMayTxn_cps (a, b, c) _ _ fun w8 hM8 => .inl ⟨_, rfl, hold_ops okT (rs := [.tmp 2]) rfl ?_⟩⟩
          have hh8 := hM8.get hh7 (by simp)
          have hb8 := hM8.get hb7 (by simp)
          have hMz := hMx.trans hM8 (by simp)
          have c8 := fun o => cellOf (o := o) hh8
          have d8 := fun o => cellOf (o := o) hb8
          cases htx : txB (a, b, c)
          · simp only [htx, Bool.false_and, Bool.false_eq_true, if_false] at hR
            simp (disch := first | omega | (simp only [SZ] <;> omega) | fail) only [GS, TT_eq, TTl, seval, c8, d8, hi, h6, htx]
            exact hR _ hMz
          · simp only [htx, Bool.true_and] at hR
            simp (disch := first | omega | (simp only [SZ] <;> omega) | fail) only [GS, TT_eq, TTl, seval, c8, d8, hi, h6, htx]
            refine ⟨fn_ok k, hfo _ (ha.mod hMz (by simp)) _ fun w9 hM9 => .inl ⟨_, rfl, hold_ops okT (rs := [.tmp 2]) rfl ?_⟩⟩
            have hMy := (hMz).trans hM9 (by simp)
            cases hfb : formB k ⟨k, (a, b, c), aud, mbs, body, yes, tag⟩
            · simp only [hfb, Bool.false_eq_true, if_false] at hR
              simp (disch := first | omega | (simp only [SZ] <;> omega) | fail) only [GS, TT_eq, TTl, seval, hfb]
              exact hR _ hMy
            · simp only [hfb, if_true] at hR
              simp (disch := first | omega | (simp only [SZ] <;> omega) | fail) only [GS, TT_eq, TTl, seval, hfb]
              exact hR _ hMy
  · refine ht_eff okT rfl rfl (v := .pointer (some ⟨w2.heap.size, 0, none⟩)) (w' := w2.alloc (.cells #[.string ⟨#[]⟩, .int .i64 0, .int .i64 0, .nilFunc, .nilFunc, .nilFunc] 169)) (by simp (maxSteps := 1000000) only [GS, TT_eq, TTl, Nat.reduceAdd, Nat.reduceMul, Nat.reduceSub, Nat.reduceDiv, Nat.reduceMod, Nat.reducePow, Nat.reduceEqDiff, ↓reduceIte, reduceCtorEq, Int.reduceToNat, Int.reduceAdd, Int.reduceSub, Int.reduceMul]) ?_ ?_ ht_stop
    all_goals have hMa := (Mod.refl [] w2).alloc (.cells #[.string ⟨#[]⟩, .int .i64 0, .int .i64 0, .nilFunc, .nilFunc, .nilFunc] 169)
    all_goals have hka := heapNew (w := w2) (o := (.cells #[.string ⟨#[]⟩, .int .i64 0, .int .i64 0, .nilFunc, .nilFunc, .nilFunc] 169))
    all_goals generalize w2.alloc (.cells #[.string ⟨#[]⟩, .int .i64 0, .int .i64 0, .nilFunc, .nilFunc, .nilFunc] 169) = w3 at hMa hka ⊢
    · simp (maxSteps := 1000000) only [GS, TT_eq, TTl, Nat.reduceAdd, Nat.reduceMul, Nat.reduceSub, Nat.reduceDiv, Nat.reduceMod, Nat.reducePow, Nat.reduceEqDiff, ↓reduceIte, reduceCtorEq, Int.reduceToNat, Int.reduceAdd, Int.reduceSub, Int.reduceMul]
      exact cellM (c2 0) hMa
    have hh3 := hMa.get hh1 (by simp)
    have hM3 := hM1.trans hMa (by simp)
    have c3 := fun o => cellOf (o := o) hh3
    have hnb : n < w2.heap.size := (Array.getElem?_eq_some_iff.1 hh1).1
    have hwb := hM1.size
    generalize w2.heap.size = b4 at hka hnb hwb ⊢
    simp (maxSteps := 1000000) only [GS, TT_eq, TTl, Nat.reduceAdd, Nat.reduceMul, Nat.reduceSub, Nat.reduceDiv, Nat.reduceMod, Nat.reducePow, Nat.reduceEqDiff, ↓reduceIte, reduceCtorEq, Int.reduceToNat, Int.reduceAdd, Int.reduceSub, Int.reduceMul]
    refine ht_lin rfl (hold_dops okT (rs := [.tmp 2]) rfl ?_)
    simp (disch := first | omega | (simp only [SZ] <;> omega) | fail) only [GS, TT_eq, TTl, seval, c3]
    refine ⟨fok87, wKinds_cps _ _ fun m w4 hm hmn hM => .inl ⟨_, rfl, cellM (c3 0) hM, hold_dops okT (rs := [.tmp 2]) rfl ?_⟩⟩
    have hh4 := hM.get hh3 (by simp)
    have hk4 := hM.get hka (by simp)
    have hM4 := hM3.trans hM (by simp)
    have c4 := fun o => cellOf (o := o) hh4
    have hl0 := look_w true hm.at hk
    rw [e] at hl0
    simp only [if_true] at hl0
    simp (disch := first | omega | (simp only [SZ] <;> omega) | fail) only [GS, TT_eq, TTl, seval, hl0, c4, oa, ob, oc, cellOf hk4, frozenOf hk4]
    have hbW := st6 hk4 (x := .string ⟨(wordS k).toArray⟩) (y := .int .i64 mn) (z := .int .i64 mx) (u := fa) (v := fb) (q := fc)
    have hhW : (((((((w4).setCell ⟨b4, 0, none⟩ (.string ⟨(wordS k).toArray⟩)).setCell ⟨b4, 1, none⟩ (.int .i64 mn)).setCell ⟨b4, 2, none⟩ (.int .i64 mx)).setCell ⟨b4, 3, none⟩ fa).setCell ⟨b4, 4, none⟩ fb).setCell ⟨b4, 5, none⟩ fc).heap[n]? = _ := (heapSetNe (heapSetNe (heapSetNe (heapSetNe (heapSetNe (heapSetNe hh4 (by omega)) (by omega)) (by omega)) (by omega)) (by omega)) (by omega))
    have hMW : Mod [] w _ := ((((((hM4.set (p := ⟨b4, 0, none⟩) (.inr hwb) (.string ⟨(wordS k).toArray⟩)).set (p := ⟨b4, 1, none⟩) (.inr hwb) (.int .i64 mn)).set (p := ⟨b4, 2, none⟩) (.inr hwb) (.int .i64 mx)).set (p := ⟨b4, 3, none⟩) (.inr hwb) fa).set (p := ⟨b4, 4, none⟩) (.inr hwb) fb).set (p := ⟨b4, 5, none⟩) (.inr hwb) fc)
    revert hbW hhW hMW
    generalize (((((((w4).setCell ⟨b4, 0, none⟩ (.string ⟨(wordS k).toArray⟩)).setCell ⟨b4, 1, none⟩ (.int .i64 mn)).setCell ⟨b4, 2, none⟩ (.int .i64 mx)).setCell ⟨b4, 3, none⟩ fa).setCell ⟨b4, 4, none⟩ fb).setCell ⟨b4, 5, none⟩ fc) = w6
    intro hbW hhW hMW
    have cW := fun o => cellOf (o := o) hhW
    cases hko : kdOk k
    · simp only [hko, Bool.false_and, Bool.false_eq_true, if_false] at hR
      simp (disch := first | omega | (simp only [SZ] <;> omega) | fail) only [GS, TT_eq, TTl, seval, cW, hko]
      exact hR _ hMW
    · have hf1 := hfa hko
      subst hf1
      simp only [hko, Bool.true_and] at hR
      simp (disch := first | omega | (simp only [SZ] <;> omega) | fail) only [GS, TT_eq, TTl, seval, cW, hko]
      have hid := wIdle_cps ⟨k, (a, b, c), aud, mbs, body, yes, tag⟩ sa hl w6 (ha.mod hMW (by simp))
      unfold msgV msgC at hid
      simp only at hid
      refine ⟨fok116, hid _ fun w7 hM7 => .inl ⟨_, rfl, hold_ops okT (rs := [.tmp 2]) rfl ?_⟩⟩
      have hh7 := hM7.get hhW (by simp)
      have hb7 := hM7.get hbW (by simp)
      have hMx := hMW.trans hM7 (by simp)
      have c7 := fun o => cellOf (o := o) hh7
      have d7 := fun o => cellOf (o := o) hb7
      cases hi : idleB ⟨k, (a, b, c), aud, mbs, body, yes, tag⟩
      · simp only [hi, Bool.false_and, Bool.false_eq_true, if_false] at hR
        simp (disch := first | omega | (simp only [SZ] <;> omega) | fail) only [GS, TT_eq, TTl, seval, c7, hi]
        exact hR _ hMx
      · simp only [hi, Bool.true_and] at hR
        by_cases h6 : (k : Int) = 6
        · have h6n : k = 6 := by omega
          rw [decide_eq_true h6n] at hR
          simp only [Bool.true_or, Bool.true_and] at hR
          simp only [h6] at hfo
          simp (disch := first | omega | (simp only [SZ] <;> omega) | fail) only [GS, TT_eq, TTl, seval, c7, d7, hi, h6]
          refine ⟨fn_ok k, hfo _ (ha.mod hMx (by simp)) _ fun w9 hM9 => .inl ⟨_, rfl, hold_ops okT (rs := [.tmp 2]) rfl ?_⟩⟩
          have hMy := (hMx).trans hM9 (by simp)
          cases hfb : formB k ⟨k, (a, b, c), aud, mbs, body, yes, tag⟩
          · simp only [hfb, Bool.false_eq_true, if_false] at hR
            rw [h6] at hfb
            simp (disch := first | omega | (simp only [SZ] <;> omega) | fail) only [GS, TT_eq, TTl, seval, hfb]
            exact hR _ hMy
          · simp only [hfb, if_true] at hR
            rw [h6] at hfb
            simp (disch := first | omega | (simp only [SZ] <;> omega) | fail) only [GS, TT_eq, TTl, seval, hfb]
            exact hR _ hMy
        · have h6n : ¬ k = 6 := by omega
          rw [decide_eq_false h6n] at hR
          simp only [Bool.false_or] at hR
          simp (disch := first | omega | (simp only [SZ] <;> omega) | fail) only [GS, TT_eq, TTl, seval, c7, d7, hi, h6]
          refine ⟨fok73, wMayTxn_cps (a, b, c) _ _ fun w8 hM8 => .inl ⟨_, rfl, hold_ops okT (rs := [.tmp 2]) rfl ?_⟩⟩
          have hh8 := hM8.get hh7 (by simp)
          have hb8 := hM8.get hb7 (by simp)
          have hMz := hMx.trans hM8 (by simp)
          have c8 := fun o => cellOf (o := o) hh8
          have d8 := fun o => cellOf (o := o) hb8
          cases htx : txB (a, b, c)
          · simp only [htx, Bool.false_and, Bool.false_eq_true, if_false] at hR
            simp (disch := first | omega | (simp only [SZ] <;> omega) | fail) only [GS, TT_eq, TTl, seval, c8, d8, hi, h6, htx]
            exact hR _ hMz
          · simp only [htx, Bool.true_and] at hR
            simp (disch := first | omega | (simp only [SZ] <;> omega) | fail) only [GS, TT_eq, TTl, seval, c8, d8, hi, h6, htx]
            refine ⟨fn_ok k, hfo _ (ha.mod hMz (by simp)) _ fun w9 hM9 => .inl ⟨_, rfl, hold_ops okT (rs := [.tmp 2]) rfl ?_⟩⟩
            have hMy := (hMz).trans hM9 (by simp)
            cases hfb : formB k ⟨k, (a, b, c), aud, mbs, body, yes, tag⟩
            · simp only [hfb, Bool.false_eq_true, if_false] at hR
              simp (disch := first | omega | (simp only [SZ] <;> omega) | fail) only [GS, TT_eq, TTl, seval, hfb]
              exact hR _ hMy
            · simp only [hfb, if_true] at hR
              simp (disch := first | omega | (simp only [SZ] <;> omega) | fail) only [GS, TT_eq, TTl, seval, hfb]
              exact hR _ hMy
def wrAt (k : Nat) : Nat := match k with
  | 1 => 118
  | 2 => 123
  | 3 => 129
  | _ => 155
def rowsL (k : Nat) (m : Msg) : List (List UInt8) := match k with
  | 1 => k2L m
  | 2 => k5L m
  | 3 => [yesS m.yes]
  | _ => []
theorem wr_ok (k : Nat) : FOk Tryz.prog (wrAt k) := by
  unfold wrAt
  split
  · exact fok118
  · exact fok123
  · exact fok129
  · exact fok155
theorem wWrite_cps (k : Nat) (m : Msg) (sa : Value) (h1 : -9223372036854775808 ≤ m.aud) (h2 : m.aud ≤ 9223372036854775807) (hl : m.mbs.length ≤ 1000000) (hd : ∀ x ∈ m.mbs, x.2.length ≤ maxLen) (w : World) (ha : Rd w 2 sa m.mbs.length (m.mbs.flatMap mbC)) (R : Ending → World → Prop) (hR : ∀ sv w', w'.ownsRow w.heap.size 9 1 sv (rowsL k m).length ((rowsL k m).map strV) → Mod [] w w' → R (.returned sv) w') : Calls Tryz.prog (wrAt k) #[msgV m sa] w R := by
  unfold wrAt
  unfold rowsL at hR
  split at hR
  · exact wK2_cps m sa h1 h2 hl hd w ha R hR
  · exact wK5_cps m sa w R hR
  · exact wK8_cps m sa w R (fun sv w' h hM => hR sv w' h hM)
  · exact wP2_cps m sa w R (fun w' hM => hR _ w' (World.ownsRow_nil _ _ _ _) hM)
theorem kdAt_wr (k : Nat) (h : 1 ≤ k ∧ k ≤ 6) : ∃ mn mx a c, kdAt k = .agg #[.string ⟨(wordS k).toArray⟩, .int .i64 mn, .int .i64 mx, a, .func (.func (wrAt k)) #[] #[], c] ∧ a.oneCell' = true ∧ c.oneCell' = true := by
  obtain ⟨h1, h2⟩ := h
  have : k = 1 ∨ k = 2 ∨ k = 3 ∨ k = 4 ∨ k = 5 ∨ k = 6 := by omega
  rcases this with rfl | rfl | rfl | rfl | rfl | rfl <;> exact ⟨_, _, _, _, rfl, rfl, rfl⟩
def rdAt (k : Nat) : Nat := match k with
  | 1 => 119
  | 2 => 125
  | 3 => 130
  | _ => 156
theorem rd_ok (k : Nat) : FOk Tryz.prog (rdAt k) := by
  unfold rdAt
  split
  · exact fok119
  · exact fok125
  · exact fok130
  · exact fok156
def mnAt (k : Nat) : Nat := match k with
  | 1 => 3
  | 2 => 1
  | 3 => 1
  | _ => 0
def mxAt (k : Nat) : Nat := match k with
  | 1 => 3
  | 2 => 2
  | 3 => 1
  | _ => 0
theorem kdAt_rd (k : Nat) (h : 1 ≤ k ∧ k ≤ 6) : ∃ a b, kdAt k = .agg #[.string ⟨(wordS k).toArray⟩, .int .i64 (mnAt k : Nat), .int .i64 (mxAt k : Nat), a, b, .func (.func (rdAt k)) #[] #[]] ∧ a.oneCell' = true ∧ b.oneCell' = true := by
  obtain ⟨h1, h2⟩ := h
  have : k = 1 ∨ k = 2 ∨ k = 3 ∨ k = 4 ∨ k = 5 ∨ k = 6 := by omega
  rcases this with rfl | rfl | rfl | rfl | rfl | rfl <;> exact ⟨_, _, rfl, rfl, rfl⟩
def m0 (k : Int) (x : Tx) : Msg := ⟨k, x, 0, [], [], false, []⟩
def getO (k : Nat) (m : Msg) (l : List (List UInt8)) : Option Msg := match k with
  | 1 => match numT (l.getD 0 []) with
    | some v => (unmbS m.tx.1 (l.getD 1 [])).map fun mb => { m with aud := (v : Int), mbs := mb, body := l.getD 2 [] }
    | none => none
  | 2 => (k6O (l.getD 0 []) l.length (l.getD 1 [])).map fun v => { m with yes := v.1, tag := v.2 }
  | 3 => (unyesO (l.getD 0 [])).map fun v => { m with yes := v }
  | _ => some m
theorem wRead_cps (k : Nat) (j : Int) (x : Tx) (p : Nat) (l : List (List UInt8)) (rv : Value) (hn : mnAt k ≤ l.length ∧ l.length ≤ mxAt k) (hz : ∀ t ∈ l, t.length ≤ maxLen) (w : World) (hh : w.heap[p]? = some (.cells (msgC (m0 j x) (.slice none 0 0)).toArray 59 (0, 0))) (hr : Rd w 1 rv l.length (l.map strV)) (hpr : ∀ b o c, rv = .slice (some ⟨b, o, none⟩) l.length c → b ≠ p) (R : Ending → World → Prop)
    (h1 : ∀ m sv w', getO k (m0 j x) l = some m → w'.heap[p]? = some (.cells (msgC m sv).toArray 59 (0, 0)) → w'.ownsRow w.heap.size 84 2 sv m.mbs.length (m.mbs.flatMap mbC) → Mod [p] w w' → R (.returned (.tuple #[])) w')
    (hN : getO k (m0 j x) l = none → ∀ w', Mod [p] w w' → R (.panicked wnoneV) w') : Calls Tryz.prog (rdAt k) #[.pointer (some ⟨p, 0, none⟩), rv] w R := by
  unfold rdAt
  unfold getO at h1 hN
  unfold mnAt mxAt at hn
  split
  · simp only at hn h1 hN
    obtain ⟨t0, t1, t2, rfl⟩ := len3' (show l.length = 3 by omega)
    simp only [List.getD_cons_zero, List.getD_cons_succ] at h1 hN
    refine wK3_cps (m0 j x) _ p t0 t1 t2 rv (hz _ (by simp)) (hz _ (by simp)) w hh hr hpr R ?_ ?_
    · intro v mb sv w' hv hmb hh' how hM
      refine h1 _ sv w' ?_ hh' how hM
      rw [hv]
      simp only
      rw [hmb]
      rfl
    · rintro (h | h) w' hM
      · exact hN (by rw [h]) w' (hM.mono (by simp))
      · refine hN ?_ w' (hM.mono (by simp))
        cases numT t0
        · rfl
        · simp only
          rw [h]
          rfl
  · simp only at hn h1 hN
    obtain ⟨t0, r, rfl⟩ := lenRest hn.1
    have e1 : (t0 :: r).getD 1 [] = r.getD 0 [] := by cases r <;> rfl
    rw [e1] at h1 hN
    simp only [List.getD_cons_zero, List.length_cons] at h1 hN
    refine wK6_cps (m0 j x) _ p t0 r rv rfl (hz _ (by simp)) (by simp only [List.length_cons] at hn; omega) w hh hr hpr R ?_ ?_
    · intro v t w' hv hh' hM
      exact h1 _ _ w' (by rw [hv]; rfl) hh' (World.ownsRow_nil _ _ _ _) hM
    · intro hv w' hM
      exact hN (by rw [hv]; rfl) w' hM
  · simp only at hn h1 hN
    obtain ⟨t0, r, rfl⟩ := lenRest hn.1
    simp only [List.getD_cons_zero] at h1 hN
    refine wK9_cps (m0 j x) _ p t0 r rv (hz _ (by simp)) w hh hr R ?_ ?_
    · intro v w' hv hh' hM
      exact h1 _ _ w' (by rw [hv]; rfl) hh' (World.ownsRow_nil _ _ _ _) hM
    · intro hv w' hM
      exact hN (by rw [hv]; rfl) w' (hM.mono (by simp))
  · rename_i g1 g2 g3
    refine wP3_cps _ _ w R ?_
    refine h1 (m0 j x) _ w ?_ hh (World.ownsRow_nil _ _ _ _) (Mod.refl _ _)
    split
    · exact absurd rfl g1
    · exact absurd rfl g2
    · exact absurd rfl g3
    · rfl
theorem yes_back (v : Bool) : unyesO (yesS v) = some v := by
  unfold unyesO yesS
  cases v
  · rw [show (numE (if false = true then 1 else 0)) = numE ((0 : Nat) : Int) from rfl, numT_of 0 (by omega)]; rfl
  · rw [show (numE (if true = true then 1 else 0)) = numE ((1 : Nat) : Int) from rfl, numT_of 1 (by omega)]; rfl
theorem of_unyes {S : List UInt8} {v : Bool} (h : unyesO S = some v) : S = yesS v := by
  unfold unyesO at h
  split at h
  · rename_i n hn
    split at h
    · rename_i h2
      simp only [Option.some.injEq] at h
      rw [(of_numT hn).1]
      have : n = 0 ∨ n = 1 := by omega
      rcases this with rfl | rfl
      · subst h; rfl
      · subst h; rfl
    · simp at h
  · simp at h
def encL (k : Nat) (m : Msg) : List (List UInt8) := (dataS (wordS k)).1 :: ((if k = 6 then [] else [(txnS m.tx).1]) ++ rowsL k m)
def encS (k : Nat) (m : Msg) : List UInt8 × Int := if checkB k m = true then (if (encL k m).any (·.isEmpty) = true then ([], 5) else madeS (114 :: numL (encL k m).length) (encL k m)) else ([], 2)
def wordN (w : List UInt8) : Nat := if w = wordS 1 then 1 else if w = wordS 2 then 2 else if w = wordS 3 then 3 else if w = wordS 4 then 4 else if w = wordS 5 then 5 else if w = wordS 6 then 6 else 0
def txL (k : Nat) (l : List (List UInt8)) : Option (Tx × List (List UInt8)) := if k = 6 then some ((0, 0, 0), l) else match l with
  | t :: r => (untxO t).map (·, r)
  | [] => none
def decR (k : Nat) (x : Tx) (r : List (List UInt8)) : Option Msg := if mnAt k ≤ r.length ∧ r.length ≤ mxAt k then (match getO k (m0 k x) r with
  | some m => if checkB k m = true then some m else none
  | none => none) else none
def decK (k : Nat) (l : List (List UInt8)) : Option Msg := match txL k l with
  | some (x, r) => decR k x r
  | none => none
def decO (S : List UInt8) : Option Msg := match rowO S 1 5 with
  | some l => if kindS (l.getD 0 []) = 1 then (if wordN (textS (l.getD 0 [])).1 = 0 then none else decK (wordN (textS (l.getD 0 [])).1) (l.drop 1)) else none
  | none => none
theorem word_of {k : Nat} (h : 1 ≤ k ∧ k ≤ 6) : wordN (wordS k) = k := by
  have : k = 1 ∨ k = 2 ∨ k = 3 ∨ k = 4 ∨ k = 5 ∨ k = 6 := by omega
  rcases this with rfl | rfl | rfl | rfl | rfl | rfl <;> rfl
theorem of_word {w : List UInt8} {k : Nat} (h : wordN w = k) (h0 : k ≠ 0) : w = wordS k ∧ 1 ≤ k ∧ k ≤ 6 := by
  unfold wordN at h
  repeat' split at h
  all_goals first | (subst h; exact ⟨by assumption, by omega, by omega⟩) | (exact absurd h.symm h0)
theorem word_data {k : Nat} (h : 1 ≤ k ∧ k ≤ 6) : dataS (wordS k) = ((dataS (wordS k)).1, 0) := by
  have : k = 1 ∨ k = 2 ∨ k = 3 ∨ k = 4 ∨ k = 5 ∨ k = 6 := by omega
  rcases this with rfl | rfl | rfl | rfl | rfl | rfl <;> rfl
theorem check_is {k : Nat} {m : Msg} (h : checkB k m = true) : (1 ≤ k ∧ k ≤ 6) ∧ idleB m = true ∧ (k = 6 ∨ txB m.tx = true) ∧ formB k m = true := by
  unfold checkB at h
  simp only [Bool.and_eq_true, Bool.or_eq_true, decide_eq_true_eq] at h
  exact ⟨of_decide_eq_true h.1.1.1, h.1.1.2, h.1.2, h.2⟩
theorem idle_is {m : Msg} (h : idleB m = true) : (¬ m.k = 1 → m.aud = 0 ∧ m.mbs = [] ∧ m.body = []) ∧ (¬ m.k = 2 → ¬ m.k = 3 → m.yes = false) ∧ (¬ m.k = 2 → m.tag = []) ∧ (m.k = 6 → m.tx = (0, 0, 0)) := by
  unfold idleB at h
  split at h
  · simp at h
  · rename_i h1
    split at h
    · simp at h
    · rename_i h2
      have h3 := of_decide_eq_true h
      refine ⟨fun hk => ?_, fun hk hk3 => ?_, fun hk => ?_, fun hk => ?_⟩
      · refine ⟨?_, ?_, ?_⟩
        · exact Decidable.byContradiction fun g => h1 ⟨hk, .inl g⟩
        · exact List.length_eq_zero_iff.1 (Decidable.byContradiction fun g => h1 ⟨hk, .inr (.inl g)⟩)
        · exact Decidable.byContradiction fun g => h1 ⟨hk, .inr (.inr g)⟩
      · cases hy : m.yes
        · rfl
        · exact absurd (.inl ⟨by omega, hy⟩) h2
      · exact Decidable.byContradiction fun g => h2 (.inr ⟨hk, g⟩)
      · rcases h3 with h3 | h3
        · exact absurd hk h3
        · exact h3
theorem rows_back {k : Nat} {m : Msg} (hk0 : m.k = k) (hc : checkB k m = true) (hne : ∀ t ∈ rowsL k m, t ≠ []) : getO k (m0 k m.tx) (rowsL k m) = some m ∧ mnAt k ≤ (rowsL k m).length ∧ (rowsL k m).length ≤ mxAt k := by
  obtain ⟨hk, hi, -, hf⟩ := check_is hc
  obtain ⟨i1, i2, i3, i4⟩ := idle_is hi
  obtain ⟨k', tx, aud, mbs, body, yes, tag⟩ := m
  simp only at hk0 i1 i2 i3 i4
  subst hk0
  have hkk : k = 1 ∨ k = 2 ∨ k = 3 ∨ k = 4 ∨ k = 5 ∨ k = 6 := by omega
  rcases hkk with rfl | rfl | rfl | hk4
  · obtain hy := i2 (by omega) (by omega)
    obtain ht := i3 (by omega)
    subst hy ht
    have hf' : k1B ⟨((1 : Nat) : Int), tx, aud, mbs, body, false, []⟩ = true := hf
    unfold k1B at hf'
    simp only [Bool.and_eq_true] at hf'
    have ho := of_decide_eq_true hf'.1.1
    obtain ⟨n, rfl⟩ : ∃ n : Nat, aud = n := ⟨aud.toNat, by omega⟩
    have hm : (mbrsS tx.1 mbs).1 ≠ [] := hne _ (by simp [rowsL, k2L])
    refine ⟨?_, by simp [rowsL, k2L, mnAt], by simp [rowsL, k2L, mxAt]⟩
    show (match numT (numE (n : Int)) with
      | some v => (unmbS tx.1 (mbrsS tx.1 mbs).1).map fun mb => ({ m0 ((1 : Nat) : Int) tx with aud := (v : Int), mbs := mb, body := body } : Msg)
      | none => none) = _
    rw [numT_of n (by omega)]
    simp only
    rw [of_unmb (mbrs_ne hm)]
    rfl
  · obtain ⟨rfl, rfl, rfl⟩ := i1 (by omega)
    have hf' : k4B ⟨((2 : Nat) : Int), tx, 0, [], [], yes, tag⟩ = true := hf
    unfold k4B at hf'
    simp only [Bool.and_eq_true] at hf'
    cases yes
    · have : tag = [] := by
        have := hf'.1
        simpa using this
      subst this
      refine ⟨?_, by simp [rowsL, k5L, mnAt], by simp [rowsL, k5L, mxAt]⟩
      show (k6O (yesS false) 1 []).map (fun v => ({ m0 ((2 : Nat) : Int) tx with yes := v.1, tag := v.2 } : Msg)) = _
      unfold k6O
      rw [yes_back]
      rfl
    · refine ⟨?_, by simp [rowsL, k5L, mnAt], by simp [rowsL, k5L, mxAt]⟩
      show (k6O (yesS true) 2 tag).map (fun v => ({ m0 ((2 : Nat) : Int) tx with yes := v.1, tag := v.2 } : Msg)) = _
      unfold k6O
      rw [yes_back]
      rfl
  · obtain ⟨rfl, rfl, rfl⟩ := i1 (by omega)
    obtain ht := i3 (by omega)
    subst ht
    refine ⟨?_, by simp [rowsL, mnAt], by simp [rowsL, mxAt]⟩
    show (unyesO (yesS yes)).map (fun v => ({ m0 ((3 : Nat) : Int) tx with yes := v } : Msg)) = _
    rw [yes_back]
    rfl
  · obtain ⟨rfl, rfl, rfl⟩ := i1 (by omega)
    obtain hy := i2 (by omega) (by omega)
    obtain ht := i3 (by omega)
    subst hy ht
    rcases hk4 with rfl | rfl | rfl <;> exact ⟨rfl, Nat.le_refl 0, Nat.le_refl 0⟩
theorem of_rows {k : Nat} {x : Tx} {r : List (List UInt8)} {m : Msg} (h : getO k (m0 k x) r = some m) (hk : 1 ≤ k ∧ k ≤ 6) (hn : mnAt k ≤ r.length ∧ r.length ≤ mxAt k) : rowsL k m = r ∧ m.tx = x ∧ m.k = k := by
  have hkk : k = 1 ∨ k = 2 ∨ k = 3 ∨ (k = 4 ∨ k = 5 ∨ k = 6) := by omega
  rcases hkk with rfl | rfl | rfl | hk4
  · obtain ⟨t0, t1, t2, rfl⟩ := len3' (show r.length = 3 by simp only [mnAt, mxAt] at hn; omega)
    simp only [getO, List.getD_cons_zero, List.getD_cons_succ] at h
    split at h
    · rename_i v hv
      cases hu : unmbS (m0 ((1 : Nat) : Int) x).tx.1 t1 with
      | none => rw [hu] at h; simp at h
      | some mb =>
        rw [hu] at h
        simp only [Option.map_some, Option.some.injEq] at h
        subst h
        refine ⟨?_, rfl, rfl⟩
        have := (unmb_back hu).1
        show [numE (v : Int), (mbrsS x.1 mb).1, t2] = _
        rw [← (of_numT hv).1]
        rw [show (m0 ((1 : Nat) : Int) x).tx.1 = x.1 from rfl] at this
        rw [this]
    · simp at h
  · simp only [mnAt, mxAt] at hn
    obtain ⟨t0, r', rfl⟩ := lenRest hn.1
    simp only [List.length_cons] at hn
    have h : (k6O t0 (r'.length + 1) ((t0 :: r').getD 1 [])).map (fun v => ({ m0 ((2 : Nat) : Int) x with yes := v.1, tag := v.2 } : Msg)) = some m := h
    cases hv : unyesO t0 with
    | none => rw [show k6O t0 (r'.length + 1) ((t0 :: r').getD 1 []) = none from by unfold k6O; rw [hv]] at h; simp at h
    | some v =>
      by_cases h2 : v = decide (r'.length + 1 = 2)
      · rw [show k6O t0 (r'.length + 1) ((t0 :: r').getD 1 []) = some (v, if v = true then (t0 :: r').getD 1 [] else []) from by unfold k6O; rw [hv]; simp only; rw [if_pos h2]] at h
        simp only [Option.map_some, Option.some.injEq] at h
        subst h
        refine ⟨?_, rfl, rfl⟩
        have ht0 := of_unyes hv
        cases hb : v
        · subst hb
          have : ¬ (r'.length + 1 = 2) := of_decide_eq_false h2.symm
          have : r' = [] := List.length_eq_zero_iff.1 (by omega)
          subst this
          rw [ht0]; rfl
        · subst hb
          have : r'.length + 1 = 2 := of_decide_eq_true h2.symm
          obtain ⟨t1, rfl⟩ := List.length_eq_one_iff.1 (show r'.length = 1 by omega)
          rw [ht0]; rfl
      · rw [show k6O t0 (r'.length + 1) ((t0 :: r').getD 1 []) = none from by unfold k6O; rw [hv]; simp only; rw [if_neg h2]] at h
        simp at h
  · simp only [mnAt, mxAt] at hn
    obtain ⟨t0, rfl⟩ := List.length_eq_one_iff.1 (show r.length = 1 by omega)
    simp only [getO, List.getD_cons_zero] at h
    cases hu : unyesO t0 with
    | none => rw [hu] at h; simp at h
    | some v =>
      rw [hu] at h
      simp only [Option.map_some, Option.some.injEq] at h
      subst h
      exact ⟨by rw [of_unyes hu]; rfl, rfl, rfl⟩
  · have hr : r = [] := by
      rcases hk4 with rfl | rfl | rfl <;> (simp only [mnAt, mxAt] at hn; exact List.length_eq_zero_iff.1 (by omega))
    subst hr
    rcases hk4 with rfl | rfl | rfl <;> (simp only [getO, Option.some.injEq] at h; subst h; exact ⟨rfl, rfl, rfl⟩)
theorem dec_enc {k : Nat} {m : Msg} {a : List UInt8} (hk0 : m.k = k) (h : encS k m = (a, 0)) : decO a = some m := by
  unfold encS at h
  split at h
  · rename_i hc
    split at h
    · simp at h
    · rename_i hne
      obtain ⟨hk, -, htx, -⟩ := check_is hc
      have hne' : ∀ t ∈ encL k m, t ≠ [] := by
        intro t ht e
        subst e
        exact hne (List.any_eq_true.2 ⟨[], ht, rfl⟩)
      obtain ⟨hg, hn1, hn2⟩ := rows_back hk0 hc fun t ht => hne' t (by unfold encL; simp [ht])
      have hmx : mxAt k ≤ 3 := by unfold mxAt; split <;> omega
      have hlen : 1 ≤ (encL k m).length ∧ (encL k m).length ≤ 5 := by
        unfold encL
        simp only [List.length_cons, List.length_append]
        split <;> simp only [List.length_nil, List.length_cons] <;> omega
      obtain ⟨hdk, hdt⟩ := data_of (word_data hk)
      unfold decO
      rw [rowO_of hlen (by decide) h]
      unfold encL
      simp only [List.getD_cons_zero, List.drop_succ_cons, List.drop_zero]
      rw [if_pos hdk, hdt, word_of hk, if_neg (by omega)]
      have hT : txL k ((if k = 6 then [] else [(txnS m.tx).1]) ++ rowsL k m) = some (m.tx, rowsL k m) := by
        unfold txL
        by_cases h6 : k = 6
        · rw [if_pos h6, if_pos h6, List.nil_append]
          have := (idle_is (check_is hc).2.1).2.2.2 (by omega)
          rw [this]
        · rw [if_neg h6, if_neg h6]
          simp only [List.cons_append, List.nil_append]
          have hx : (txnS m.tx).1 ≠ [] := hne' _ (by unfold encL; rw [if_neg h6]; simp)
          rw [(txn_back (txn_ne hx)).1]
          rfl
      unfold decK
      rw [hT]
      simp only
      unfold decR
      rw [if_pos ⟨hn1, hn2⟩, hg]
      simp only
      rw [if_pos hc]
  · simp at h
structure MsgIn (w : World) (m : Msg) (sa : Value) : Prop where
  kind : ∃ k : Nat, m.k = k ∧ k < 256
  t1 : I64 m.tx.1
  t2 : I64 m.tx.2.1
  t3 : I64 m.tx.2.2
  aud : I64 m.aud
  mbs : MbsIn w sa m.mbs
  body : m.body.length ≤ maxLen
  tag : m.tag.length ≤ maxLen
section
variable {H : Type} {enc : TypeId × Value → H} {w : World} {base : Nat} {spare : Nat → Bool} {held : Bool}
theorem cells9 {cs : List Value} (hl : cs.length = 9) : ∃ k0 k1 k2 k3 k4 k5 k6 k7 k8, cs = [k0, k1, k2, k3, k4, k5, k6, k7, k8] := by
  match cs, hl with
  | [k0, k1, k2, k3, k4, k5, k6, k7, k8], _ => exact ⟨_, _, _, _, _, _, _, _, _, rfl⟩
theorem msg_el : ∀ n cs y, DataW.trod enc Tryz.prog w base spare held n 59 cs = some y → ∃ (m : Msg) (sa : Value), cs = msgC m sa ∧ MsgIn w m sa := by
  intro n cs y h
  obtain ⟨hl, hf⟩ := el_field Tryz.underlying59 h
  rw [show Tryz.prog.cellsOf 59 = 9 from by kernel_rfl] at hl
  obtain ⟨m0, z0, e0⟩ := hf 0 _ rfl
  obtain ⟨m1, z1, e1⟩ := hf 1 _ rfl
  obtain ⟨m2, z2, e2⟩ := hf 2 _ rfl
  obtain ⟨m3, z3, e3⟩ := hf 3 _ rfl
  obtain ⟨m4, z4, e4⟩ := hf 4 _ rfl
  obtain ⟨m5, z5, e5⟩ := hf 5 _ rfl
  obtain ⟨m6, z6, e6⟩ := hf 6 _ rfl
  obtain ⟨a0, f0, _, g0⟩ := DataW.trod_int Tryz.underlying5 e0
  obtain ⟨a1, f1, t1, t2, t3⟩ := tx_el _ _ _ e1
  obtain ⟨a2, f2, _, g2⟩ := DataW.trod_int Tryz.underlying3 e2
  obtain ⟨sa, l, f3, hm⟩ := mbs_in e3
  obtain ⟨a4, f4, _, g4⟩ := DataW.trod_string Tryz.underlying9 e4
  obtain ⟨a5, f5, _⟩ := DataW.trod_bool Tryz.underlying4 e5
  obtain ⟨a6, f6, _, g6⟩ := DataW.trod_string Tryz.underlying9 e6
  have f0 : List.take (Tryz.prog.cellsOf 5) (List.drop 0 cs) = _ := f0
  have f1 : List.take (Tryz.prog.cellsOf 23) (List.drop 1 cs) = _ := f1
  have f2 : List.take (Tryz.prog.cellsOf 3) (List.drop 4 cs) = _ := f2
  have f3 : List.take (Tryz.prog.cellsOf 24) (List.drop 5 cs) = _ := f3
  have f4 : List.take (Tryz.prog.cellsOf 9) (List.drop 6 cs) = _ := f4
  have f5 : List.take (Tryz.prog.cellsOf 4) (List.drop 7 cs) = _ := f5
  have f6 : List.take (Tryz.prog.cellsOf 9) (List.drop 8 cs) = _ := f6
  rw [show Tryz.prog.cellsOf 5 = 1 from by kernel_rfl] at f0
  rw [show Tryz.prog.cellsOf 23 = 3 from by kernel_rfl] at f1
  rw [show Tryz.prog.cellsOf 3 = 1 from by kernel_rfl] at f2
  rw [show Tryz.prog.cellsOf 24 = 1 from by kernel_rfl] at f3
  rw [show Tryz.prog.cellsOf 9 = 1 from by kernel_rfl] at f4 f6
  rw [show Tryz.prog.cellsOf 4 = 1 from by kernel_rfl] at f5
  obtain ⟨k0, k1, k2, k3, k4, k5, k6, k7, k8, rfl⟩ := cells9 hl
  clear e0 e1 e2 e3 e4 e5 e6 hf h
  unfold txC at f1
  simp only [List.drop_succ_cons, List.drop_zero, List.take_succ_cons, List.take_zero, List.cons.injEq, and_true] at f0 f1 f2 f3 f4 f5 f6
  have q0 := wf_u8 g0
  refine ⟨⟨((a0.toNat : Nat) : Int), a1, a2, l, a4.data.toList, a5, a6.data.toList⟩, sa, ?_, ⟨⟨a0.toNat, rfl, by omega⟩, t1, t2, t3, wf_i64 g2, hm, ?_, ?_⟩⟩
  · have e0 : ((a0.toNat : Nat) : Int) = a0 := Int.toNat_of_nonneg q0.1
    unfold msgC
    simp only
    rw [e0, byL, byL, f0, f1.1, f1.2.1, f1.2.2, f2, f3, f4, f5, f6]
  · show a4.data.toList.length ≤ maxLen
    rw [Array.length_toList]
    exact g4
  · show a6.data.toList.length ≤ maxLen
    rw [Array.length_toList]
    exact g6
end
end Go.Proofs.YtdflchgfhmjhbaaGreatDoor
