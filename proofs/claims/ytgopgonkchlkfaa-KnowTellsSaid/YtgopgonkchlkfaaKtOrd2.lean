/-
  Chapter 10: the chapter's example (walk).
-/
import Derived.Test.YtgopgonkchlkfaaKtOrd1
set_option linter.unusedSimpArgs false
set_option linter.unusedVariables false
set_option maxRecDepth 20000
namespace Go.Proofs.Ytgopgonkchlkfaa
open Go Go.Wk Go.RowKit
attribute [local irreducible] go Hold
open Go.Lib
set_option maxHeartbeats 2000000 in
theorem Len_cps (E : List Ent) (kp mr : Nat) (w : World) (hK : KnAt w kp mr E) (R : Ending → World → Prop) (hR : R (.returned (.int .i64 (E.length : Nat))) w) :
    Calls Try.prog 38 #[.pointer (some ⟨kp, 0, none⟩)] w R := by
  refine calls_go 4000 okT Try.func38 rfl (rs := [.tmp 2]) rfl Try.ntmps38 (args := [.pointer (some ⟨kp, 0, none⟩)]) ?_
  have cK : w.cell? ⟨kp, 0, none⟩ = some (.map (some mr)) := by rw [cellOf hK.1]; rfl
  obtain ⟨l, hmp, hen⟩ := id hK.2
  have hl := hen.len
  simp (maxSteps := 1000000) (disch := first | omega | (simp only [sizeAlloc, sizeDrew, sizeSet, sizePut] <;> omega) | fail) only [GS, TT_eq, TTl, Nat.reduceAdd, Nat.reduceMul, Nat.reduceSub, Nat.reduceDiv, Nat.reduceMod, Nat.reducePow, Nat.reduceEqDiff, ↓reduceIte, reduceCtorEq, Int.reduceToNat, Int.reduceAdd, Int.reduceSub, Int.reduceMul, cK, lenM]
  refine hold_lenMap okT rfl rfl rfl hmp.at ?_
  refine hold_ops okT (rs := [.tmp 2]) rfl ?_
  rw [hl]
  simp (maxSteps := 1000000) (disch := first | omega | (simp only [sizeAlloc, sizeDrew, sizeSet, sizePut] <;> omega) | fail) only [GS, TT_eq, TTl, Nat.reduceAdd, Nat.reduceMul, Nat.reduceSub, Nat.reduceDiv, Nat.reduceMod, Nat.reducePow, Nat.reduceEqDiff, ↓reduceIte, reduceCtorEq, Int.reduceToNat, Int.reduceAdd, Int.reduceSub, Int.reduceMul]
  exact hR
set_option maxHeartbeats 16000000 in
theorem alive10_cps (w : World) (R : Ending → World → Prop) (hR : ∀ w', Mod [] w w' → R (.returned (.bool true)) w') : Calls Try.prog 35 #[] w R := by
  refine calls_go 4000 okT Try.func35 rfl (rs := [.tmp 0]) rfl Try.ntmps35 (args := []) ?_
  simp (maxSteps := 1000000) (disch := first | omega | (simp only [sizeAlloc, sizeDrew, sizeSet, sizePut] <;> omega) | fail) only [GS, TT_eq, TTl, Nat.reduceAdd, Nat.reduceMul, Nat.reduceSub, Nat.reduceDiv, Nat.reduceMod, Nat.reducePow, Nat.reduceEqDiff, ↓reduceIte, reduceCtorEq, Int.reduceToNat, Int.reduceAdd, Int.reduceSub, Int.reduceMul]
  refine ⟨fok40, new_cps w _ fun w1 kp mr hK1 hkp hmr hM1 => .inl ⟨_, rfl, hold_ops okT (rs := [.tmp 0]) rfl ?_⟩⟩
  simp (maxSteps := 1000000) (disch := first | omega | (simp only [sizeAlloc, sizeDrew, sizeSet, sizePut] <;> omega) | fail) only [GS, TT_eq, TTl, Nat.reduceAdd, Nat.reduceMul, Nat.reduceSub, Nat.reduceDiv, Nat.reduceMod, Nat.reducePow, Nat.reduceEqDiff, ↓reduceIte, reduceCtorEq, Int.reduceToNat, Int.reduceAdd, Int.reduceSub, Int.reduceMul]
  refine ⟨fok50, tData_cps [49] (by decide) _ _ fun w2 hM2 => .inl ⟨_, rfl, hold_ops okT (rs := [.tmp 0]) rfl ?_⟩⟩
  rw [y1]
  unfold stV
  simp (maxSteps := 1000000) (disch := first | omega | (simp only [sizeAlloc, sizeDrew, sizeSet, sizePut] <;> omega) | fail) only [GS, TT_eq, TTl, Nat.reduceAdd, Nat.reduceMul, Nat.reduceSub, Nat.reduceDiv, Nat.reduceMod, Nat.reducePow, Nat.reduceEqDiff, ↓reduceIte, reduceCtorEq, Int.reduceToNat, Int.reduceAdd, Int.reduceSub, Int.reduceMul]
  refine ⟨fok67, atom_cps [107] (by decide) _ _ fun w3 hM3 => .inl ⟨_, rfl, hold_ops okT (rs := [.tmp 0]) rfl ?_⟩⟩
  rw [y2]
  simp (maxSteps := 1000000) (disch := first | omega | (simp only [sizeAlloc, sizeDrew, sizeSet, sizePut] <;> omega) | fail) only [GS, TT_eq, TTl, Nat.reduceAdd, Nat.reduceMul, Nat.reduceSub, Nat.reduceDiv, Nat.reduceMod, Nat.reducePow, Nat.reduceEqDiff, ↓reduceIte, reduceCtorEq, Int.reduceToNat, Int.reduceAdd, Int.reduceSub, Int.reduceMul]
  refine ⟨fok67, atom_cps [97] (by decide) _ _ fun w4 hM4 => .inl ⟨_, rfl, hold_ops okT (rs := [.tmp 0]) rfl ?_⟩⟩
  rw [y3]
  simp (maxSteps := 1000000) (disch := first | omega | (simp only [sizeAlloc, sizeDrew, sizeSet, sizePut] <;> omega) | fail) only [GS, TT_eq, TTl, Nat.reduceAdd, Nat.reduceMul, Nat.reduceSub, Nat.reduceDiv, Nat.reduceMod, Nat.reducePow, Nat.reduceEqDiff, ↓reduceIte, reduceCtorEq, Int.reduceToNat, Int.reduceAdd, Int.reduceSub, Int.reduceMul]
  refine ⟨fok51, tSeal_cps tK t1 tA (by decide) (by decide) (by decide) _ _ fun w5 hM5 => .inl ⟨_, rfl, hold_ops okT (rs := [.tmp 0]) rfl ?_⟩⟩
  rw [y4]
  unfold stV
  simp (maxSteps := 1000000) (disch := first | omega | (simp only [sizeAlloc, sizeDrew, sizeSet, sizePut] <;> omega) | fail) only [GS, TT_eq, TTl, Nat.reduceAdd, Nat.reduceMul, Nat.reduceSub, Nat.reduceDiv, Nat.reduceMod, Nat.reducePow, Nat.reduceEqDiff, ↓reduceIte, reduceCtorEq, Int.reduceToNat, Int.reduceAdd, Int.reduceSub, Int.reduceMul]
  have hW := (((hM1.trans hM2 (by simp)).trans hM3 (by simp)).trans hM4 (by simp)).trans hM5 (by simp)
  have hK := hK1.mod0 (((hM2.trans hM3 (by simp)).trans hM4 (by simp)).trans hM5 (by simp))
  clear hM1 hM2 hM3 hM4 hM5 hK1
  refine ⟨fok36, learn_cps [] (by simp) [] KnIs.nil Fin.nil tS (by decide) kp mr w5 hK _ (fun hc _ _ => absurd yS.1 hc) (fun _ E1 mr1 w6 hI1 hF1 hn1 hK6 _ hM6 => ?_) (fun _ E1 w6 hI1 hn1 _ => absurd (hI1.small (by simpa using yS.1)) (by simp [sumL]; omega))⟩
  refine .inl ⟨_, rfl, hold_ops okT (rs := [.tmp 0]) rfl ?_⟩
  rw [List.nil_append] at hI1
  have hW6 : Mod [] w w6 := hW.trans hM6 (by intro y hy; simp only [List.mem_singleton] at hy; subst hy; exact .inr hkp)
  clear hW hK hM6
  simp (maxSteps := 1000000) (disch := first | omega | (simp only [sizeAlloc, sizeDrew, sizeSet, sizePut] <;> omega) | fail) only [GS, TT_eq, TTl, Nat.reduceAdd, Nat.reduceMul, Nat.reduceSub, Nat.reduceDiv, Nat.reduceMod, Nat.reducePow, Nat.reduceEqDiff, ↓reduceIte, reduceCtorEq, Int.reduceToNat, Int.reduceAdd, Int.reduceSub, Int.reduceMul]
  refine ⟨fok67, atom_cps [97] (by decide) _ _ fun w7 hM7 => .inl ⟨_, rfl, hold_ops okT (rs := [.tmp 0]) rfl ?_⟩⟩
  rw [y3]
  simp (maxSteps := 1000000) (disch := first | omega | (simp only [sizeAlloc, sizeDrew, sizeSet, sizePut] <;> omega) | fail) only [GS, TT_eq, TTl, Nat.reduceAdd, Nat.reduceMul, Nat.reduceSub, Nat.reduceDiv, Nat.reduceMod, Nat.reducePow, Nat.reduceEqDiff, ↓reduceIte, reduceCtorEq, Int.reduceToNat, Int.reduceAdd, Int.reduceSub, Int.reduceMul]
  refine ⟨fok17, Can_cps E1 tA (by decide) kp mr1 w7 (hK6.mod0 hM7) _ fun w8 hM8 => .inl ⟨_, rfl, hold_ops okT (rs := [.tmp 0]) rfl ?_⟩⟩
  rw [can1 hI1 hF1, Bool.and_false]
  have hM68 := hM7.trans hM8 (by simp)
  have hW8 := hW6.trans hM68 (by simp)
  have hK8 := hK6.mod0 hM68
  clear hM7 hM8 hM68 hW6 hK6
  simp (maxSteps := 1000000) (disch := first | omega | (simp only [sizeAlloc, sizeDrew, sizeSet, sizePut] <;> omega) | fail) only [GS, TT_eq, TTl, Nat.reduceAdd, Nat.reduceMul, Nat.reduceSub, Nat.reduceDiv, Nat.reduceMod, Nat.reducePow, Nat.reduceEqDiff, ↓reduceIte, reduceCtorEq, Int.reduceToNat, Int.reduceAdd, Int.reduceSub, Int.reduceMul]
  refine ⟨fok37, List_cps E1 (by omega) kp mr1 w8 hK8 _ fun lv w9 hown hM9 => .inl ⟨_, rfl, hold_ops okT (rs := [.tmp 0]) rfl ?_⟩⟩
  rw [srt1 hI1 hF1] at hown
  simp (maxSteps := 1000000) (disch := first | omega | (simp only [sizeAlloc, sizeDrew, sizeSet, sizePut] <;> omega) | fail) only [GS, TT_eq, TTl, Nat.reduceAdd, Nat.reduceMul, Nat.reduceSub, Nat.reduceDiv, Nat.reduceMod, Nat.reducePow, Nat.reduceEqDiff, ↓reduceIte, reduceCtorEq, Int.reduceToNat, Int.reduceAdd, Int.reduceSub, Int.reduceMul]
  have hrd : Rd (w9.alloc (.cells #[.string ⟨tS.toArray⟩] 9)) 1 (.slice (some ⟨w9.heap.size, 0, none⟩) 1 1) 1 ([tS].map strV) := Rd.lit (n := 1) (xs := [tS].map strV) rfl
  have hMa := (Mod.refl [] w9).alloc (.cells #[.string ⟨tS.toArray⟩] 9)
  refine ⟨fok41, Same_cps lv _ [tS] [tS] _ _ (by decide) ((Rd.own hown).mod hMa (by simp)) hrd fun k1 => .inl ⟨_, rfl, hold_ops okT (rs := [.tmp 0]) rfl ?_⟩⟩
  rw [decide_eq_true rfl]
  have hM8b := (hM9.trans hMa (by simp)).drewN k1
  have hW9 := hW8.trans hM8b (by simp)
  have hK9 := hK8.mod0 hM8b
  clear hW8 hK8 hM9 hMa hM8b hrd hown
  generalize (w9.alloc (.cells #[.string ⟨tS.toArray⟩] 9)).drewN k1 = wa at *
  simp (maxSteps := 1000000) (disch := first | omega | (simp only [sizeAlloc, sizeDrew, sizeSet, sizePut] <;> omega) | fail) only [GS, TT_eq, TTl, Nat.reduceAdd, Nat.reduceMul, Nat.reduceSub, Nat.reduceDiv, Nat.reduceMod, Nat.reducePow, Nat.reduceEqDiff, ↓reduceIte, reduceCtorEq, Int.reduceToNat, Int.reduceAdd, Int.reduceSub, Int.reduceMul]
  refine ⟨fok67, atom_cps [107] (by decide) _ _ fun wb hMb => .inl ⟨_, rfl, hold_ops okT (rs := [.tmp 0]) rfl ?_⟩⟩
  rw [y2]
  simp (maxSteps := 1000000) (disch := first | omega | (simp only [sizeAlloc, sizeDrew, sizeSet, sizePut] <;> omega) | fail) only [GS, TT_eq, TTl, Nat.reduceAdd, Nat.reduceMul, Nat.reduceSub, Nat.reduceDiv, Nat.reduceMod, Nat.reducePow, Nat.reduceEqDiff, ↓reduceIte, reduceCtorEq, Int.reduceToNat, Int.reduceAdd, Int.reduceSub, Int.reduceMul]
  have hrd := Rd.lit (w := wb) (size := 1) (n := 2) (e := 9) (xs := [tK, t1].map strV) rfl
  have hMc := (Mod.refl [] wb).alloc (.cells ([tK, t1].map strV).toArray 9)
  refine ⟨fok49, tRow_cps _ [tK, t1] _ _ (by decide) (by decide) hrd fun wd hMd => .inl ⟨_, rfl, hold_ops okT (rs := [.tmp 0]) rfl ?_⟩⟩
  rw [show madeS (114 :: numL [tK, t1].length) [tK, t1] = (tR, 0) from y5]
  unfold stV
  simp (maxSteps := 1000000) (disch := first | omega | (simp only [sizeAlloc, sizeDrew, sizeSet, sizePut] <;> omega) | fail) only [GS, TT_eq, TTl, Nat.reduceAdd, Nat.reduceMul, Nat.reduceSub, Nat.reduceDiv, Nat.reduceMod, Nat.reducePow, Nat.reduceEqDiff, ↓reduceIte, reduceCtorEq, Int.reduceToNat, Int.reduceAdd, Int.reduceSub, Int.reduceMul]
  have hMad := (hMb.trans hMc (by simp)).trans hMd (by simp)
  have hWd := hW9.trans hMad (by simp)
  have hKd := hK9.mod0 hMad
  clear hMb hMc hMd hMad hW9 hK9 hrd
  refine ⟨fok36, learn_cps [tS] (by simpa using yS.1) E1 hI1 hF1 tR (by decide) kp mr1 wd hKd _ (fun hc _ _ => absurd yR.1 hc) (fun _ E2 mr2 we hI2 hF2 hn2 hKe _ hMe => ?_) (fun _ E2 we hI2 hn2 _ => absurd (hI2.small ok2) (by simp [sumL]; omega))⟩
  refine .inl ⟨_, rfl, hold_ops okT (rs := [.tmp 0]) rfl ?_⟩
  have hWe : Mod [] w we := hWd.trans hMe (by intro y hy; simp only [List.mem_singleton] at hy; subst hy; exact .inr hkp)
  clear hMe hWd hKd
  simp (maxSteps := 1000000) (disch := first | omega | (simp only [sizeAlloc, sizeDrew, sizeSet, sizePut] <;> omega) | fail) only [GS, TT_eq, TTl, Nat.reduceAdd, Nat.reduceMul, Nat.reduceSub, Nat.reduceDiv, Nat.reduceMod, Nat.reducePow, Nat.reduceEqDiff, ↓reduceIte, reduceCtorEq, Int.reduceToNat, Int.reduceAdd, Int.reduceSub, Int.reduceMul]
  refine ⟨fok67, atom_cps [97] (by decide) _ _ fun wf hMf => .inl ⟨_, rfl, hold_ops okT (rs := [.tmp 0]) rfl ?_⟩⟩
  rw [y3]
  simp (maxSteps := 1000000) (disch := first | omega | (simp only [sizeAlloc, sizeDrew, sizeSet, sizePut] <;> omega) | fail) only [GS, TT_eq, TTl, Nat.reduceAdd, Nat.reduceMul, Nat.reduceSub, Nat.reduceDiv, Nat.reduceMod, Nat.reducePow, Nat.reduceEqDiff, ↓reduceIte, reduceCtorEq, Int.reduceToNat, Int.reduceAdd, Int.reduceSub, Int.reduceMul]
  refine ⟨fok17, Can_cps E2 tA (by decide) kp mr2 wf (hKe.mod0 hMf) _ fun wg hMg => .inl ⟨_, rfl, hold_ops okT (rs := [.tmp 0]) rfl ?_⟩⟩
  rw [can2 hI2 hF2, decide_eq_true yk.2.2.2.2, Bool.and_true]
  have hMeg := hMf.trans hMg (by simp)
  have hWg := hWe.trans hMeg (by simp)
  have hKg := hKe.mod0 hMeg
  clear hMf hMg hMeg hWe hKe
  simp (maxSteps := 1000000) (disch := first | omega | (simp only [sizeAlloc, sizeDrew, sizeSet, sizePut] <;> omega) | fail) only [GS, TT_eq, TTl, Nat.reduceAdd, Nat.reduceMul, Nat.reduceSub, Nat.reduceDiv, Nat.reduceMod, Nat.reducePow, Nat.reduceEqDiff, ↓reduceIte, reduceCtorEq, Int.reduceToNat, Int.reduceAdd, Int.reduceSub, Int.reduceMul]
  refine ⟨fok37, List_cps E2 (by omega) kp mr2 wg hKg _ fun lv2 wh hown hMh => .inl ⟨_, rfl, hold_ops okT (rs := [.tmp 0]) rfl ?_⟩⟩
  rw [srt2 hI2 hF2] at hown
  simp (maxSteps := 1000000) (disch := first | omega | (simp only [sizeAlloc, sizeDrew, sizeSet, sizePut] <;> omega) | fail) only [GS, TT_eq, TTl, Nat.reduceAdd, Nat.reduceMul, Nat.reduceSub, Nat.reduceDiv, Nat.reduceMod, Nat.reducePow, Nat.reduceEqDiff, ↓reduceIte, reduceCtorEq, Int.reduceToNat, Int.reduceAdd, Int.reduceSub, Int.reduceMul]
  refine ⟨fok67, atom_cps [97] (by decide) _ _ fun wi hMi => .inl ⟨_, rfl, hold_ops okT (rs := [.tmp 0]) rfl ?_⟩⟩
  rw [y3]
  simp (maxSteps := 1000000) (disch := first | omega | (simp only [sizeAlloc, sizeDrew, sizeSet, sizePut] <;> omega) | fail) only [GS, TT_eq, TTl, Nat.reduceAdd, Nat.reduceMul, Nat.reduceSub, Nat.reduceDiv, Nat.reduceMod, Nat.reducePow, Nat.reduceEqDiff, ↓reduceIte, reduceCtorEq, Int.reduceToNat, Int.reduceAdd, Int.reduceSub, Int.reduceMul]
  refine ⟨fok67, atom_cps [107] (by decide) _ _ fun wj hMj => .inl ⟨_, rfl, hold_ops okT (rs := [.tmp 0]) rfl ?_⟩⟩
  rw [y2]
  simp (maxSteps := 1000000) (disch := first | omega | (simp only [sizeAlloc, sizeDrew, sizeSet, sizePut] <;> omega) | fail) only [GS, TT_eq, TTl, Nat.reduceAdd, Nat.reduceMul, Nat.reduceSub, Nat.reduceDiv, Nat.reduceMod, Nat.reducePow, Nat.reduceEqDiff, ↓reduceIte, reduceCtorEq, Int.reduceToNat, Int.reduceAdd, Int.reduceSub, Int.reduceMul]
  have hrd : Rd (wj.alloc (.cells #[.string ⟨tA.toArray⟩, .string ⟨tK.toArray⟩, .string ⟨tS.toArray⟩] 9)) 1 (.slice (some ⟨wj.heap.size, 0, none⟩) 3 3) 3 ([tA, tK, tS].map strV) := Rd.lit (n := 3) (xs := [tA, tK, tS].map strV) rfl
  have hMk := (Mod.refl [] wj).alloc (.cells #[.string ⟨tA.toArray⟩, .string ⟨tK.toArray⟩, .string ⟨tS.toArray⟩] 9)
  have hMhk := (hMi.trans hMj (by simp)).trans hMk (by simp)
  refine ⟨fok41, Same_cps lv2 _ [tA, tK, tS] [tA, tK, tS] _ _ (by decide) ((Rd.own hown).mod hMhk (by simp)) hrd fun k2 => .inl ⟨_, rfl, hold_ops okT (rs := [.tmp 0]) rfl ?_⟩⟩
  rw [decide_eq_true rfl]
  have hM8b := (hMh.trans hMhk (by simp)).drewN k2
  have hWk := hWg.trans hM8b (by simp)
  have hKk := hKg.mod0 hM8b
  clear hMh hMi hMj hMk hMhk hM8b hWg hKg hrd hown
  generalize (wj.alloc (.cells #[.string ⟨tA.toArray⟩, .string ⟨tK.toArray⟩, .string ⟨tS.toArray⟩] 9)).drewN k2 = wl at *
  simp (maxSteps := 1000000) (disch := first | omega | (simp only [sizeAlloc, sizeDrew, sizeSet, sizePut] <;> omega) | fail) only [GS, TT_eq, TTl, Nat.reduceAdd, Nat.reduceMul, Nat.reduceSub, Nat.reduceDiv, Nat.reduceMod, Nat.reducePow, Nat.reduceEqDiff, ↓reduceIte, reduceCtorEq, Int.reduceToNat, Int.reduceAdd, Int.reduceSub, Int.reduceMul]
  refine ⟨fok36, learn_cps [tS, tR] ok2 E2 hI2 hF2 [] (by decide) kp mr2 wl hKk _ (fun _ wm hMm => ?_) (fun hc => absurd hc checkS_nil) (fun hc => absurd hc checkS_nil)⟩
  refine .inl ⟨_, rfl, hold_ops okT (rs := [.tmp 0]) rfl ?_⟩
  simp (maxSteps := 1000000) (disch := first | omega | (simp only [sizeAlloc, sizeDrew, sizeSet, sizePut] <;> omega) | fail) only [GS, TT_eq, TTl, Nat.reduceAdd, Nat.reduceMul, Nat.reduceSub, Nat.reduceDiv, Nat.reduceMod, Nat.reducePow, Nat.reduceEqDiff, ↓reduceIte, reduceCtorEq, Int.reduceToNat, Int.reduceAdd, Int.reduceSub, Int.reduceMul]
  refine ⟨fok38, Len_cps E2 kp mr2 wm (hKk.mod0 hMm) _ (.inl ⟨_, rfl, hold_ops okT (rs := [.tmp 0]) rfl ?_⟩)⟩
  have hl3 : E2.length = 3 := by
    have := (keys2 hI2 hF2).length_eq
    unfold keysE at this
    rw [List.length_map] at this
    exact this
  rw [hl3]
  simp (maxSteps := 1000000) (disch := first | omega | (simp only [sizeAlloc, sizeDrew, sizeSet, sizePut] <;> omega) | fail) only [GS, TT_eq, TTl, Nat.reduceAdd, Nat.reduceMul, Nat.reduceSub, Nat.reduceDiv, Nat.reduceMod, Nat.reducePow, Nat.reduceEqDiff, ↓reduceIte, reduceCtorEq, Int.reduceToNat, Int.reduceAdd, Int.reduceSub, Int.reduceMul]
  exact hR _ (hWk.trans hMm (by simp))
end Go.Proofs.Ytgopgonkchlkfaa
