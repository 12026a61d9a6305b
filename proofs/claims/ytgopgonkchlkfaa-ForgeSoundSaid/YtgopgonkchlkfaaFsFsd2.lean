/-
  ForgeSound (walk).
-/
import Derived.Test.YtgopgonkchlkfaaFsKnw6
import Derived.Test.YtgopgonkchlkfaaFsFrg6
set_option linter.unusedSimpArgs false
set_option linter.unusedVariables false
set_option maxRecDepth 20000
namespace Go.Proofs.Ytgopgonkchlkfaa
open Go Go.Wk Go.RowKit
attribute [local irreducible] go Hold
open Go.Lib
set_option maxHeartbeats 8000000 in
theorem sound_cps (pa ma : Value) (p : List (List UInt8)) (m : List Stp) (w : World) (R : Ending → World → Prop) (hp : Rd w 1 pa p.length (p.map strV)) (hps : ∀ s ∈ p, s.length ≤ maxLen) (hpl : p.length ≤ 9223372036854775807)
    (hm : RdS w ma m) (hml : m.length ≤ 9223372036854775807) (hR : ∀ w', Mod [] w w' → R (.returned (.bool true)) w') : Calls Try.prog 3 #[pa, ma] w R := by
  obtain ⟨a2, c2, rfl⟩ := hm.rd.slice
  refine calls_go 4000 okT Try.func3 rfl (rs := [.tmp 4]) rfl Try.ntmps3 (args := [pa, .slice a2 m.length c2]) ?_
  simp (maxSteps := 1000000) (disch := first | omega | (simp only [sizeAlloc, sizeDrew, sizeSet, sizePut] <;> omega) | fail) only [GS, TT_eq, TTl, Nat.reduceAdd, Nat.reduceMul, Nat.reduceSub, Nat.reduceDiv, Nat.reduceMod, Nat.reducePow, Nat.reduceEqDiff, ↓reduceIte, reduceCtorEq, Int.reduceToNat, Int.reduceAdd, Int.reduceSub, Int.reduceMul]
  refine ⟨fok12, Long10s_cps pa p _ _ hpl hps hp fun b1 hb1 => .inl ⟨_, rfl, hold_ops okT (rs := [.tmp 4]) rfl ?_⟩⟩
  cases b1
  · simp (maxSteps := 1000000) (disch := first | omega | (simp only [sizeAlloc, sizeDrew, sizeSet, sizePut] <;> omega) | fail) only [GS, TT_eq, TTl, Nat.reduceAdd, Nat.reduceMul, Nat.reduceSub, Nat.reduceDiv, Nat.reduceMod, Nat.reducePow, Nat.reduceEqDiff, ↓reduceIte, reduceCtorEq, Int.reduceToNat, Int.reduceAdd, Int.reduceSub, Int.reduceMul]
    refine ⟨fok13, heavy_cps _ m _ _ hml hm fun b2 hb2 => .inl ⟨_, rfl, hold_ops okT (rs := [.tmp 4]) rfl ?_⟩⟩
    cases b2
    · obtain ⟨⟨hp1, hsum⟩, hm1⟩ : (p.length ≤ 40 ∧ sumL p ≤ 6000) ∧ m.length ≤ 100 := ⟨hb1 rfl, hb2 rfl⟩
      simp (maxSteps := 1000000) (disch := first | omega | (simp only [sizeAlloc, sizeDrew, sizeSet, sizePut] <;> omega) | fail) only [GS, TT_eq, TTl, Nat.reduceAdd, Nat.reduceMul, Nat.reduceSub, Nat.reduceDiv, Nat.reduceMod, Nat.reducePow, Nat.reduceEqDiff, ↓reduceIte, reduceCtorEq, Int.reduceToNat, Int.reduceAdd, Int.reduceSub, Int.reduceMul]
      refine ⟨fok15, knows_cps pa p _ _ hpl hps hp hsum fun w1 kp mr E hI hF hK hM1 => .inl ⟨_, rfl, hold_ops okT (rs := [.tmp 4]) rfl ?_⟩⟩
      simp (maxSteps := 1000000) (disch := first | omega | (simp only [sizeAlloc, sizeDrew, sizeSet, sizePut] <;> omega) | fail) only [GS, TT_eq, TTl, Nat.reduceAdd, Nat.reduceMul, Nat.reduceSub, Nat.reduceDiv, Nat.reduceMod, Nat.reducePow, Nat.reduceEqDiff, ↓reduceIte, reduceCtorEq, Int.reduceToNat, Int.reduceAdd, Int.reduceSub, Int.reduceMul]
      refine ⟨fok16, fTerms_cps _ _ p m _ _ (hp.mod hM1 (by simp)) hps hpl (hm.mod hM1) (by omega) fun lv w2 hown hM2 => .inl ⟨_, rfl, hold_ops okT (rs := [.tmp 4]) rfl ?_⟩⟩
      have hM02 := hM1.trans hM2 (by simp)
      have hK2 := hK.mod0 hM2
      have q1 := @allT_ok p m
      have q2 := @allT_mk p m
      have q3 := @allT_err p m
      have q4 : runR' (allT p m) = if (allT p m).2.2 = 0 then (lastS (allT p m).1, 0, 0) else ([], (allT p m).2.1, (allT p m).2.2) := rfl
      have hrd := Rd.own hown
      obtain ⟨la, lc, rfl⟩ := hrd.slice
      generalize hX : allT p m = X at *
      obtain ⟨l, at', e⟩ := X
      simp only at hown hrd q1 q2 q3 q4 ⊢
      by_cases he : e = 0
      · subst he
        obtain ⟨hl, hl0⟩ := q1 rfl
        have q2 := q2 rfl
        rw [if_pos rfl] at q4
        have hcan : ∀ t ∈ l, (decide (checkS t = 0) && mkB E t) = true := by
          intro t ht
          obtain ⟨h1, h2⟩ := q2 t ht
          rw [decide_eq_true h1, Bool.true_and, mkB_iff]
          exact (hI.makes hF (okL_ok p)).2 h2
        have hlen : ∀ t ∈ l, t.length ≤ maxLen := fun t ht => len16 (q2 t ht).1
        simp (maxSteps := 1000000) (disch := first | omega | (simp only [sizeAlloc, sizeDrew, sizeSet, sizePut] <;> omega) | fail) only [GS, TT_eq, TTl, Nat.reduceAdd, Nat.reduceMul, Nat.reduceSub, Nat.reduceDiv, Nat.reduceMod, Nat.reducePow, Nat.reduceEqDiff, ↓reduceIte, reduceCtorEq, Int.reduceToNat, Int.reduceAdd, Int.reduceSub, Int.reduceMul]
        refine hold_loop okT (rs := [.tmp 4]) rfl [8] [4, 37, 38, 39, 40, 41, 42, 43, 44, 45, 46, 47, 48, 49] (fun vs w' => ∃ k : Nat, k ≤ l.length ∧ vs = [.int .i64 k] ∧ Mod [] w2 w') (fun vs _ => match vs with | [.int _ i] => l.length - i.toNat | _ => 0) (by kernel_rfl) ⟨0, by omega, rfl, Mod.refl _ _⟩ ?_
        rintro vs w3 J ⟨k, hk, rfl, hM3⟩
        by_cases hlt : k < l.length
        · obtain ⟨b1, o1, c1, e1, _, g1⟩ := (hrd.mod hM3 (by simp)).at (by omega) (by omega)
          have f1 := g1 k _ (getS hlt)
          rw [Value.slice.injEq] at e1
          obtain ⟨rfl, -, -⟩ := e1
          have hzm := List.getElem_mem hlt
          generalize l[k] = z at *
          simp (maxSteps := 1000000) (disch := first | omega | (simp only [sizeAlloc, sizeDrew, sizeSet, sizePut] <;> omega) | fail) only [GS, TT_eq, TTl, Nat.reduceAdd, Nat.reduceMul, Nat.reduceSub, Nat.reduceDiv, Nat.reduceMod, Nat.reducePow, Nat.reduceEqDiff, ↓reduceIte, reduceCtorEq, Int.reduceToNat, Int.reduceAdd, Int.reduceSub, Int.reduceMul, f1]
          refine ⟨fok17, Can_cps E z (hlen z hzm) kp mr w3 (hK2.mod0 hM3) _ fun w4 hM4 => .inl ⟨_, rfl, hold_ops okT (rs := [.tmp 4]) rfl ?_⟩⟩
          rw [hcan z hzm]
          simp (maxSteps := 1000000) (disch := first | omega | (simp only [sizeAlloc, sizeDrew, sizeSet, sizePut] <;> omega) | fail) only [GS, TT_eq, TTl, Nat.reduceAdd, Nat.reduceMul, Nat.reduceSub, Nat.reduceDiv, Nat.reduceMod, Nat.reducePow, Nat.reduceEqDiff, ↓reduceIte, reduceCtorEq, Int.reduceToNat, Int.reduceAdd, Int.reduceSub, Int.reduceMul]
          exact ⟨⟨k + 1, by omega, rfl, hM3.trans hM4 (by simp)⟩, by omega⟩
        · have e2 : k = l.length := by omega
          subst e2
          have hM03 := hM02.trans hM3 (by simp)
          simp (maxSteps := 1000000) (disch := first | omega | (simp only [sizeAlloc, sizeDrew, sizeSet, sizePut] <;> omega) | fail) only [GS, TT_eq, TTl, Nat.reduceAdd, Nat.reduceMul, Nat.reduceSub, Nat.reduceDiv, Nat.reduceMod, Nat.reducePow, Nat.reduceEqDiff, ↓reduceIte, reduceCtorEq, Int.reduceToNat, Int.reduceAdd, Int.reduceSub, Int.reduceMul]
          refine ⟨fok18, fRun_cps _ _ p m _ _ (hp.mod hM03 (by simp)) hps hpl (hm.mod hM03) (by omega) fun w4 hM4 => .inl ⟨_, rfl, hold_ops okT (rs := [.tmp 4]) rfl ?_⟩⟩
          rw [hX, q4]
          unfold rnV3
          have hM04 := hM03.trans hM4 (by simp)
          obtain ⟨b1, o1, c1, e1, f1⟩ := rdAt rfl (hrd.mod (hM3.trans hM4 (by simp)) (by simp)) (i := (l.length : Int) - 1) (by omega) (by omega)
          have hat : atL l ((l.length : Int) - 1) = lastS l := by
            unfold atL lastS
            congr 1
            omega
          rw [hat] at f1
          rw [Value.slice.injEq] at e1
          obtain ⟨rfl, -, -⟩ := e1
          have hlm : (l.length : Int) = m.length := by omega
          simp (maxSteps := 1000000) (disch := first | omega | (simp only [sizeAlloc, sizeDrew, sizeSet, sizePut] <;> omega) | fail) only [GS, TT_eq, TTl, Nat.reduceAdd, Nat.reduceMul, Nat.reduceSub, Nat.reduceDiv, Nat.reduceMod, Nat.reducePow, Nat.reduceEqDiff, ↓reduceIte, reduceCtorEq, Int.reduceToNat, Int.reduceAdd, Int.reduceSub, Int.reduceMul, f1]
          refine ⟨fok14, alive_cps _ _ fun wz hMz => .inl ⟨_, rfl, hold_ops okT (rs := [.tmp 4]) rfl ?_⟩⟩
          simp (maxSteps := 1000000) (disch := first | omega | (simp only [sizeAlloc, sizeDrew, sizeSet, sizePut] <;> omega) | fail) only [GS, TT_eq, TTl, Nat.reduceAdd, Nat.reduceMul, Nat.reduceSub, Nat.reduceDiv, Nat.reduceMod, Nat.reducePow, Nat.reduceEqDiff, ↓reduceIte, reduceCtorEq, Int.reduceToNat, Int.reduceAdd, Int.reduceSub, Int.reduceMul]
          exact hR _ (hM04.trans hMz (by simp))
      · have h0 := q3 he
        subst h0
        simp (maxSteps := 1000000) (disch := first | omega | (simp only [sizeAlloc, sizeDrew, sizeSet, sizePut] <;> omega) | fail) only [GS, TT_eq, TTl, Nat.reduceAdd, Nat.reduceMul, Nat.reduceSub, Nat.reduceDiv, Nat.reduceMod, Nat.reducePow, Nat.reduceEqDiff, ↓reduceIte, reduceCtorEq, Int.reduceToNat, Int.reduceAdd, Int.reduceSub, Int.reduceMul, he]
        refine ⟨fok14, alive_cps _ _ fun wz hMz => .inl ⟨_, rfl, hold_ops okT (rs := [.tmp 4]) rfl ?_⟩⟩
        simp (maxSteps := 1000000) (disch := first | omega | (simp only [sizeAlloc, sizeDrew, sizeSet, sizePut] <;> omega) | fail) only [GS, TT_eq, TTl, Nat.reduceAdd, Nat.reduceMul, Nat.reduceSub, Nat.reduceDiv, Nat.reduceMod, Nat.reducePow, Nat.reduceEqDiff, ↓reduceIte, reduceCtorEq, Int.reduceToNat, Int.reduceAdd, Int.reduceSub, Int.reduceMul]
        exact hR _ (hM02.trans hMz (by simp))
    · simp (maxSteps := 1000000) (disch := first | omega | (simp only [sizeAlloc, sizeDrew, sizeSet, sizePut] <;> omega) | fail) only [GS, TT_eq, TTl, Nat.reduceAdd, Nat.reduceMul, Nat.reduceSub, Nat.reduceDiv, Nat.reduceMod, Nat.reducePow, Nat.reduceEqDiff, ↓reduceIte, reduceCtorEq, Int.reduceToNat, Int.reduceAdd, Int.reduceSub, Int.reduceMul]
      refine ⟨fok14, alive_cps _ _ fun wz hMz => .inl ⟨_, rfl, hold_ops okT (rs := [.tmp 4]) rfl ?_⟩⟩
      simp (maxSteps := 1000000) (disch := first | omega | (simp only [sizeAlloc, sizeDrew, sizeSet, sizePut] <;> omega) | fail) only [GS, TT_eq, TTl, Nat.reduceAdd, Nat.reduceMul, Nat.reduceSub, Nat.reduceDiv, Nat.reduceMod, Nat.reducePow, Nat.reduceEqDiff, ↓reduceIte, reduceCtorEq, Int.reduceToNat, Int.reduceAdd, Int.reduceSub, Int.reduceMul]
      exact hR _ hMz
  · simp (maxSteps := 1000000) (disch := first | omega | (simp only [sizeAlloc, sizeDrew, sizeSet, sizePut] <;> omega) | fail) only [GS, TT_eq, TTl, Nat.reduceAdd, Nat.reduceMul, Nat.reduceSub, Nat.reduceDiv, Nat.reduceMod, Nat.reducePow, Nat.reduceEqDiff, ↓reduceIte, reduceCtorEq, Int.reduceToNat, Int.reduceAdd, Int.reduceSub, Int.reduceMul]
    refine ⟨fok14, alive_cps _ _ fun wz hMz => .inl ⟨_, rfl, hold_ops okT (rs := [.tmp 4]) rfl ?_⟩⟩
    simp (maxSteps := 1000000) (disch := first | omega | (simp only [sizeAlloc, sizeDrew, sizeSet, sizePut] <;> omega) | fail) only [GS, TT_eq, TTl, Nat.reduceAdd, Nat.reduceMul, Nat.reduceSub, Nat.reduceDiv, Nat.reduceMod, Nat.reducePow, Nat.reduceEqDiff, ↓reduceIte, reduceCtorEq, Int.reduceToNat, Int.reduceAdd, Int.reduceSub, Int.reduceMul]
    exact hR _ hMz
end Go.Proofs.Ytgopgonkchlkfaa
