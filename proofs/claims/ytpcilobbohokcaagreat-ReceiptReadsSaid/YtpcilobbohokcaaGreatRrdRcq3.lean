/-
  The reference's shape of a receipt's term, and whether a number stands twice (walks).
-/
import Derived.Test.YtpcilobbohokcaaGreatRrdRefL
import Derived.Test.YtpcilobbohokcaaGreatRrdC2
set_option linter.unusedSimpArgs false
set_option linter.unusedVariables false
set_option maxRecDepth 20000
namespace Go.Proofs.YtpcilobbohokcaaGreat
open Go Go.Wk Go.RowKit
attribute [local irreducible] go Hold
open Go.Lib
/-- The numbers of the members, if a term has the parts of a receipt. -/
def shR (S : List UInt8) : Option (List Nat) := match rowR S 5 with
  | none => none
  | some l => if l.getD 0 [] = (dataS RW).1 ∧ (untxO (l.getD 1 [])).isSome = true ∧ (numT (l.getD 2 [])).isSome = true ∧ kindS (l.getD 3 []) = 3 ∧ kindS (l.getD 4 []) = 3 then numsO (partsS (l.getD 3 [])) else none
theorem box3 {w W : World} {t : Nat} {a0 a1 a2 x0 x1 x2 : Value} (h : (((w.alloc (.cells #[a0, a1, a2] t)).setCell ⟨w.heap.size, 0, none⟩ x0).setCell ⟨w.heap.size, 1, none⟩ x1).setCell ⟨w.heap.size, 2, none⟩ x2 = W) : W.heap[w.heap.size]? = some (.cells #[x0, x1, x2] t (0, 0)) ∧ Mod [] w W := by
  subst h
  refine ⟨?_, ((((Mod.refl [] w).alloc (.cells #[a0, a1, a2] t)).set (p := ⟨w.heap.size, 0, none⟩) (.inr (Nat.le_refl _)) x0).set (p := ⟨w.heap.size, 1, none⟩) (.inr (Nat.le_refl _)) x1).set (p := ⟨w.heap.size, 2, none⟩) (.inr (Nat.le_refl _)) x2⟩
  rw [heapSet (heapSet (heapSet heapNew))]
  rfl
set_option maxRecDepth 20000 in
set_option maxHeartbeats 16000000 in
theorem rShape_cps (S : List UInt8) (hS : S.length ≤ maxLen) (w : World) (R : Ending → World → Prop)
    (h1 : ∀ ns sv w', shR S = some ns → ns.length ≤ 16384 → w'.ownsRow w.heap.size 3 1 sv ns.length (ns.map kV) → Mod [] w w' → R (.returned (.tuple #[sv, .bool true])) w') (h0 : shR S = none → ∀ w', Mod [] w w' → R (.returned (.tuple #[.slice none 0 0, .bool false])) w') :
    Calls Tryz.prog 77 #[.string ⟨S.toArray⟩] w R := by
  generalize hX : shR S = X at h1 h0
  unfold shR rowR at hX
  refine calls_go 4000 okT Tryz.func77 rfl (rs := [.tmp 2, .tmp 3]) rfl Tryz.ntmps77 (args := [.string ⟨S.toArray⟩]) ?_
  simp (maxSteps := 1000000) (disch := first | omega | (simp only [sizeAlloc, sizeDrew, sizeSet, sizePut] <;> omega) | fail) only [GS, TT_eq, TTl, Nat.reduceAdd, Nat.reduceMul, Nat.reduceSub, Nat.reduceDiv, Nat.reduceMod, Nat.reducePow, Nat.reduceEqDiff, ↓reduceIte, reduceCtorEq, Int.reduceToNat, Int.reduceAdd, Int.reduceSub, Int.reduceMul]
  refine ⟨fok79, rPartsA_cps S hS _ _ (fun hc w2 hM2 => .inl ⟨_, rfl, hold_ops okT (rs := [.tmp 2, .tmp 3]) rfl ?_⟩) (fun hc pv w2 hpo hM2 => .inl ⟨_, rfl, hold_ops okT (rs := [.tmp 2, .tmp 3]) rfl ?_⟩)⟩
  · have hk : kindS S = 0 := by unfold kindS; rw [if_neg hc]
    rw [if_neg (by omega)] at hX
    simp (maxSteps := 1000000) (disch := first | omega | (simp only [sizeAlloc, sizeDrew, sizeSet, sizePut] <;> omega) | fail) only [GS, TT_eq, TTl, Nat.reduceAdd, Nat.reduceMul, Nat.reduceSub, Nat.reduceDiv, Nat.reduceMod, Nat.reducePow, Nat.reduceEqDiff, ↓reduceIte, reduceCtorEq, Int.reduceToNat, Int.reduceAdd, Int.reduceSub, Int.reduceMul]
    refine ⟨fok97, rKindA_cps S hS _ _ fun w3 hM3 => .inl ⟨_, rfl, hold_ops okT (rs := [.tmp 2, .tmp 3]) rfl ?_⟩⟩
    rw [hk]
    simp (maxSteps := 1000000) (disch := first | omega | (simp only [sizeAlloc, sizeDrew, sizeSet, sizePut] <;> omega) | fail) only [GS, TT_eq, TTl, Nat.reduceAdd, Nat.reduceMul, Nat.reduceSub, Nat.reduceDiv, Nat.reduceMod, Nat.reducePow, Nat.reduceEqDiff, ↓reduceIte, reduceCtorEq, Int.reduceToNat, Int.reduceAdd, Int.reduceSub, Int.reduceMul]
    exact h0 hX.symm _ (hM2.trans hM3 (by simp))
  have hpc := parts_ok hc
  have hlp := partsS_len S
  have hlS := (check0 hc).2.2.1
  have hpR := Rd.own hpo
  generalize hps : partsS S = ps at *
  obtain ⟨pa, pc, rfl⟩ := hpR.slice
  simp (maxSteps := 1000000) (disch := first | omega | (simp only [sizeAlloc, sizeDrew, sizeSet, sizePut] <;> omega) | fail) only [GS, TT_eq, TTl, Nat.reduceAdd, Nat.reduceMul, Nat.reduceSub, Nat.reduceDiv, Nat.reduceMod, Nat.reducePow, Nat.reduceEqDiff, ↓reduceIte, reduceCtorEq, Int.reduceToNat, Int.reduceAdd, Int.reduceSub, Int.reduceMul]
  refine ⟨fok97, rKindA_cps S hS _ _ fun w3 hM3 => .inl ⟨_, rfl, hold_ops okT (rs := [.tmp 2, .tmp 3]) rfl ?_⟩⟩
  have hM03 := hM2.trans hM3 (by simp)
  have hpR3 := hpR.mod hM3 (by simp)
  by_cases hk : (kindS S : Int) = 3
  rotate_left
  · rw [if_neg (by omega)] at hX
    simp (maxSteps := 1000000) (disch := first | omega | (simp only [sizeAlloc, sizeDrew, sizeSet, sizePut] <;> omega) | fail) only [GS, TT_eq, TTl, Nat.reduceAdd, Nat.reduceMul, Nat.reduceSub, Nat.reduceDiv, Nat.reduceMod, Nat.reducePow, Nat.reduceEqDiff, ↓reduceIte, reduceCtorEq, Int.reduceToNat, Int.reduceAdd, Int.reduceSub, Int.reduceMul, hk]
    exact h0 hX.symm _ hM03
  by_cases hl5 : ((ps.length : Nat) : Int) = 5
  rotate_left
  · rw [if_neg (by omega)] at hX
    simp (maxSteps := 1000000) (disch := first | omega | (simp only [sizeAlloc, sizeDrew, sizeSet, sizePut] <;> omega) | fail) only [GS, TT_eq, TTl, Nat.reduceAdd, Nat.reduceMul, Nat.reduceSub, Nat.reduceDiv, Nat.reduceMod, Nat.reducePow, Nat.reduceEqDiff, ↓reduceIte, reduceCtorEq, Int.reduceToNat, Int.reduceAdd, Int.reduceSub, Int.reduceMul, hk, hl5]
    exact h0 hX.symm _ hM03
  rw [if_pos (by omega)] at hX
  obtain ⟨t0, t1, t2, t3, t4, rfl⟩ := len5 (show ps.length = 5 by omega)
  simp only [List.getD_cons_zero, List.getD_cons_succ] at hX
  have z0 := (check0 (hpc t0 (by simp))).2.2.1
  have z1 := (check0 (hpc t1 (by simp))).2.2.1
  have z2 := (check0 (hpc t2 (by simp))).2.2.1
  have z3 := (check0 (hpc t3 (by simp))).2.2.1
  have z4 := (check0 (hpc t4 (by simp))).2.2.1
  obtain ⟨b1, o1, c1, e1, _, g1⟩ := hpR3.at (by simp) (by simp)
  have f0 : w3.cell? ⟨b1, o1, none⟩ = some (.string ⟨t0.toArray⟩) := g1 0 _ rfl
  have f1 : w3.cell? ⟨b1, o1 + 1, none⟩ = some (.string ⟨t1.toArray⟩) := g1 1 _ rfl
  have f2 : w3.cell? ⟨b1, o1 + 2, none⟩ = some (.string ⟨t2.toArray⟩) := g1 2 _ rfl
  have f3 : w3.cell? ⟨b1, o1 + 3, none⟩ = some (.string ⟨t3.toArray⟩) := g1 3 _ rfl
  have f4 : w3.cell? ⟨b1, o1 + 4, none⟩ = some (.string ⟨t4.toArray⟩) := g1 4 _ rfl
  rw [Value.slice.injEq] at e1
  obtain ⟨rfl, -, rfl⟩ := e1
  clear g1 hpR hpR3 hpo hps hM2 hM3
  simp (maxSteps := 1000000) (disch := first | omega | (simp only [sizeAlloc, sizeDrew, sizeSet, sizePut] <;> omega) | fail) only [GS, TT_eq, TTl, Nat.reduceAdd, Nat.reduceMul, Nat.reduceSub, Nat.reduceDiv, Nat.reduceMod, Nat.reducePow, Nat.reduceEqDiff, ↓reduceIte, reduceCtorEq, Int.reduceToNat, Int.reduceAdd, Int.reduceSub, Int.reduceMul, hk, hl5]
  refine ⟨fok86, rData_cps RW (by unfold maxLen; decide) _ _ fun w4 hM4 => .inl ⟨_, rfl, hold_ops okT (rs := [.tmp 2, .tmp 3]) rfl ?_⟩⟩
  have hM04 := hM03.trans hM4 (by simp)
  generalize dataS RW = Pd at *
  obtain ⟨dt, de⟩ := Pd
  unfold stV
  simp only at hX
  have f1 := cellM f1 hM4
  simp (maxSteps := 1000000) (disch := first | omega | (simp only [sizeAlloc, sizeDrew, sizeSet, sizePut] <;> omega) | fail) only [GS, TT_eq, TTl, Nat.reduceAdd, Nat.reduceMul, Nat.reduceSub, Nat.reduceDiv, Nat.reduceMod, Nat.reducePow, Nat.reduceEqDiff, ↓reduceIte, reduceCtorEq, Int.reduceToNat, Int.reduceAdd, Int.reduceSub, Int.reduceMul, f1]
  refine ⟨fok47, rReadTxn12_u t1 (by unfold maxLen; omega) _ _ fun w5 hM5 => .inl ⟨_, rfl, hold_stop (s' := some 6) (hold_ops okT (rs := [.tmp 2, .tmp 3]) rfl ?_)⟩⟩
  have hM05 := hM04.trans hM5 (by simp)
  have hM35 := hM4.trans hM5 (by simp)
  generalize (untxO t1).getD (0, 0, 0) = T at *
  generalize (untxO t1).isSome = td at *
  obtain ⟨xa, xb, xc⟩ := T
  unfold txV
  simp only
  simp (maxSteps := 1000000) (disch := first | omega | (simp only [sizeAlloc, sizeDrew, sizeSet, sizePut] <;> omega) | fail) only [GS, TT_eq, TTl, Nat.reduceAdd, Nat.reduceMul, Nat.reduceSub, Nat.reduceDiv, Nat.reduceMod, Nat.reducePow, Nat.reduceEqDiff, ↓reduceIte, reduceCtorEq, Int.reduceToNat, Int.reduceAdd, Int.reduceSub, Int.reduceMul]
  generalize hW : (((w5.alloc (.cells #[.int .i64 0, .int .i64 0, .int .i64 0] 24)).setCell ⟨w5.heap.size, 0, none⟩ (.int .i64 xa)).setCell ⟨w5.heap.size, 1, none⟩ (.int .i64 xb)).setCell ⟨w5.heap.size, 2, none⟩ (.int .i64 xc) = w6
  obtain ⟨-, hM56⟩ := box3 hW
  clear hW
  have hM06 := hM05.trans hM56 (by simp)
  have hM36 := hM35.trans hM56 (by simp)
  have f2 := cellM f2 hM36
  refine hold_stop (s' := none) ?_
  refine hold_code okT (rs := [.tmp 2, .tmp 3]) rfl ?_
  simp (maxSteps := 1000000) (disch := first | omega | (simp only [sizeAlloc, sizeDrew, sizeSet, sizePut] <;> omega) | fail) only [GS, TT_eq, TTl, Nat.reduceAdd, Nat.reduceMul, Nat.reduceSub, Nat.reduceDiv, Nat.reduceMod, Nat.reducePow, Nat.reduceEqDiff, ↓reduceIte, reduceCtorEq, Int.reduceToNat, Int.reduceAdd, Int.reduceSub, Int.reduceMul, f2]
  refine ⟨fok80, rReadNumA_cps t2 (by unfold maxLen; omega) _ _ fun w7 hM7 => .inl ⟨_, rfl, hold_ops okT (rs := [.tmp 2, .tmp 3]) rfl ?_⟩⟩
  rw [nuV_u]
  have hM07 := hM06.trans hM7 (by simp)
  have hM37 := hM36.trans hM7 (by simp)
  generalize (numT t2).getD 0 = nv at *
  generalize (numT t2).isSome = nd at *
  have f0 := cellM f0 hM37
  have f3 := cellM f3 hM37
  have f4 := cellM f4 hM37
  by_cases h00 : t0 = dt
  rotate_left
  · rw [if_neg (fun h => h00 h.1)] at hX
    simp (maxSteps := 1000000) (disch := first | omega | (simp only [sizeAlloc, sizeDrew, sizeSet, sizePut] <;> omega) | fail) only [GS, TT_eq, TTl, Nat.reduceAdd, Nat.reduceMul, Nat.reduceSub, Nat.reduceDiv, Nat.reduceMod, Nat.reducePow, Nat.reduceEqDiff, ↓reduceIte, reduceCtorEq, Int.reduceToNat, Int.reduceAdd, Int.reduceSub, Int.reduceMul, f0, h00]
    exact h0 hX.symm _ hM07
  subst h00
  cases td
  · rw [if_neg (fun h => by simp at h)] at hX
    simp (maxSteps := 1000000) (disch := first | omega | (simp only [sizeAlloc, sizeDrew, sizeSet, sizePut] <;> omega) | fail) only [GS, TT_eq, TTl, Nat.reduceAdd, Nat.reduceMul, Nat.reduceSub, Nat.reduceDiv, Nat.reduceMod, Nat.reducePow, Nat.reduceEqDiff, ↓reduceIte, reduceCtorEq, Int.reduceToNat, Int.reduceAdd, Int.reduceSub, Int.reduceMul, f0, eq_self]
    exact h0 hX.symm _ hM07
  cases nd
  · rw [if_neg (fun h => by simp at h)] at hX
    simp (maxSteps := 1000000) (disch := first | omega | (simp only [sizeAlloc, sizeDrew, sizeSet, sizePut] <;> omega) | fail) only [GS, TT_eq, TTl, Nat.reduceAdd, Nat.reduceMul, Nat.reduceSub, Nat.reduceDiv, Nat.reduceMod, Nat.reducePow, Nat.reduceEqDiff, ↓reduceIte, reduceCtorEq, Int.reduceToNat, Int.reduceAdd, Int.reduceSub, Int.reduceMul, f0, eq_self]
    exact h0 hX.symm _ hM07
  simp (maxSteps := 1000000) (disch := first | omega | (simp only [sizeAlloc, sizeDrew, sizeSet, sizePut] <;> omega) | fail) only [GS, TT_eq, TTl, Nat.reduceAdd, Nat.reduceMul, Nat.reduceSub, Nat.reduceDiv, Nat.reduceMod, Nat.reducePow, Nat.reduceEqDiff, ↓reduceIte, reduceCtorEq, Int.reduceToNat, Int.reduceAdd, Int.reduceSub, Int.reduceMul, f0, eq_self, f3]
  refine ⟨fok97, rKindA_cps t3 (by unfold maxLen; omega) _ _ fun w8 hM8 => .inl ⟨_, rfl, hold_ops okT (rs := [.tmp 2, .tmp 3]) rfl ?_⟩⟩
  have hM08 := hM07.trans hM8 (by simp)
  have f3 := cellM f3 hM8
  have f4 := cellM f4 hM8
  by_cases hk3 : (kindS t3 : Int) = 3
  rotate_left
  · rw [if_neg (fun h => hk3 (by have := h.2.2.2.1; omega))] at hX
    simp (maxSteps := 1000000) (disch := first | omega | (simp only [sizeAlloc, sizeDrew, sizeSet, sizePut] <;> omega) | fail) only [GS, TT_eq, TTl, Nat.reduceAdd, Nat.reduceMul, Nat.reduceSub, Nat.reduceDiv, Nat.reduceMod, Nat.reducePow, Nat.reduceEqDiff, ↓reduceIte, reduceCtorEq, Int.reduceToNat, Int.reduceAdd, Int.reduceSub, Int.reduceMul, hk3]
    exact h0 hX.symm _ hM08
  simp (maxSteps := 1000000) (disch := first | omega | (simp only [sizeAlloc, sizeDrew, sizeSet, sizePut] <;> omega) | fail) only [GS, TT_eq, TTl, Nat.reduceAdd, Nat.reduceMul, Nat.reduceSub, Nat.reduceDiv, Nat.reduceMod, Nat.reducePow, Nat.reduceEqDiff, ↓reduceIte, reduceCtorEq, Int.reduceToNat, Int.reduceAdd, Int.reduceSub, Int.reduceMul, hk3, f4]
  refine ⟨fok97, rKindA_cps t4 (by unfold maxLen; omega) _ _ fun w9 hM9 => .inl ⟨_, rfl, hold_ops okT (rs := [.tmp 2, .tmp 3]) rfl ?_⟩⟩
  have hM09 := hM08.trans hM9 (by simp)
  have f3 := cellM f3 hM9
  by_cases hk4 : (kindS t4 : Int) = 3
  rotate_left
  · rw [if_neg (fun h => hk4 (by have := h.2.2.2.2; omega))] at hX
    simp (maxSteps := 1000000) (disch := first | omega | (simp only [sizeAlloc, sizeDrew, sizeSet, sizePut] <;> omega) | fail) only [GS, TT_eq, TTl, Nat.reduceAdd, Nat.reduceMul, Nat.reduceSub, Nat.reduceDiv, Nat.reduceMod, Nat.reducePow, Nat.reduceEqDiff, ↓reduceIte, reduceCtorEq, Int.reduceToNat, Int.reduceAdd, Int.reduceSub, Int.reduceMul, hk4]
    exact h0 hX.symm _ hM09
  rw [if_pos ⟨rfl, rfl, rfl, by omega, by omega⟩] at hX
  simp (maxSteps := 1000000) (disch := first | omega | (simp only [sizeAlloc, sizeDrew, sizeSet, sizePut] <;> omega) | fail) only [GS, TT_eq, TTl, Nat.reduceAdd, Nat.reduceMul, Nat.reduceSub, Nat.reduceDiv, Nat.reduceMod, Nat.reducePow, Nat.reduceEqDiff, ↓reduceIte, reduceCtorEq, Int.reduceToNat, Int.reduceAdd, Int.reduceSub, Int.reduceMul, hk4, f3]
  refine ⟨fok79, rPartsA_cps t3 (by unfold maxLen; omega) _ _ (fun h => absurd (hpc t3 (by simp)) h) (fun hc3 qv w10 hqo hM10 => .inl ⟨_, rfl, hold_ops okT (rs := [.tmp 2, .tmp 3]) rfl ?_⟩)⟩
  have hM010 := hM09.trans hM10 (by simp)
  have hqc := parts_ok hc3
  have hlq := partsS_len t3
  have hqR := Rd.own hqo
  generalize hqs : partsS t3 = q at *
  clear f0 f1 f2 f3 f4 hM03 hM04 hM05 hM06 hM07 hM08 hM09 hM35 hM36 hM37 hM4 hM5 hM56 hM7 hM8 hM9 hpc hqs hqo
  obtain ⟨qa, qc, rfl⟩ := hqR.slice
  have hb10 := hM010.size
  simp (maxSteps := 1000000) (disch := first | omega | (simp only [sizeAlloc, sizeDrew, sizeSet, sizePut] <;> omega) | fail) only [GS, TT_eq, TTl, Nat.reduceAdd, Nat.reduceMul, Nat.reduceSub, Nat.reduceDiv, Nat.reduceMod, Nat.reducePow, Nat.reduceEqDiff, ↓reduceIte, reduceCtorEq, Int.reduceToNat, Int.reduceAdd, Int.reduceSub, Int.reduceMul]
  refine hold_loop okT (rs := [.tmp 2, .tmp 3]) rfl [14, 15] [2, 3, 16, 17, 18, 19, 85, 86, 87, 88, 89, 90, 91, 92, 93, 94, 95, 96, 97, 98, 99, 100, 101, 102, 103, 104, 105, 106, 107, 108, 109, 110, 111, 112, 113, 114, 115, 116, 117, 118, 119, 120, 121, 122] (fun vs w' => ∃ (k : Nat) (sv : Value) (r : List Nat), vs = [sv, .int .i64 k] ∧ k ≤ q.length ∧ r.length = k ∧ numsO q = (numsO (q.drop k)).map (r ++ ·) ∧ w'.ownsRow w10.heap.size 3 1 sv r.length (r.map kV) ∧ Mod [] w10 w') (fun vs _ => match vs with | [_, .int _ i] => q.length - i.toNat | _ => 0) (by kernel_rfl) ⟨0, .slice none 0 0, [], rfl, by omega, rfl, by rw [List.drop_zero]; cases numsO q <;> rfl, World.ownsRow_nil _ _ _ _, Mod.refl _ _⟩ ?_
  rintro vs w11 J ⟨k, sv, r, rfl, hkq, hrl, hN, hown, hM11⟩
  have hM011 := hM010.trans hM11 (by simp)
  have hrd := hqR.mod hM11 (by simp)
  have hcl := ownsRow_one hown
  obtain ⟨va, vc, rfl⟩ := (Rd.own hown).slice
  by_cases hlt : k < q.length
  · obtain ⟨b2, o2, c2, e2, _, g2⟩ := hrd.at (by omega) (by omega)
    have f1 : w11.cell? ⟨b2, o2 + k, none⟩ = some (.string ⟨(q[k]).toArray⟩) := g2 k _ (getS hlt)
    rw [Value.slice.injEq] at e2
    obtain ⟨rfl, -, -⟩ := e2
    have hsc := hqc _ (List.getElem_mem hlt)
    rw [List.drop_eq_getElem_cons hlt, numsO] at hN
    generalize q[k] = s at *
    have hsl := (check0 hsc).2.2.1
    unfold rowR at hN
    have hmc := parts_ok hsc
    simp (maxSteps := 1000000) (disch := first | omega | (simp only [sizeAlloc, sizeDrew, sizeSet, sizePut] <;> omega) | fail) only [GS, TT_eq, TTl, Nat.reduceAdd, Nat.reduceMul, Nat.reduceSub, Nat.reduceDiv, Nat.reduceMod, Nat.reducePow, Nat.reduceEqDiff, ↓reduceIte, reduceCtorEq, Int.reduceToNat, Int.reduceAdd, Int.reduceSub, Int.reduceMul, f1]
    refine ⟨fok79, rPartsA_cps s (by unfold maxLen; omega) _ _ (fun h => absurd hsc h) (fun _ mv w12 hmo hM12 => .inl ⟨_, rfl, hold_ops okT (rs := [.tmp 2, .tmp 3]) rfl ?_⟩)⟩
    have f1 := cellM f1 hM12
    have hmR := Rd.own hmo
    generalize hms : partsS s = m at *
    obtain ⟨ma, mc, rfl⟩ := hmR.slice
    simp (maxSteps := 1000000) (disch := first | omega | (simp only [sizeAlloc, sizeDrew, sizeSet, sizePut] <;> omega) | fail) only [GS, TT_eq, TTl, Nat.reduceAdd, Nat.reduceMul, Nat.reduceSub, Nat.reduceDiv, Nat.reduceMod, Nat.reducePow, Nat.reduceEqDiff, ↓reduceIte, reduceCtorEq, Int.reduceToNat, Int.reduceAdd, Int.reduceSub, Int.reduceMul, f1]
    refine ⟨fok97, rKindA_cps s (by unfold maxLen; omega) _ _ fun w13 hM13 => .inl ⟨_, rfl, hold_ops okT (rs := [.tmp 2, .tmp 3]) rfl ?_⟩⟩
    have hM113 := hM12.trans hM13 (by simp)
    have hM013 := hM011.trans hM113 (by simp)
    have hmR3 := hmR.mod hM13 (by simp)
    have hown3 := ownsRow_mod hown hM113 (by simp)
    by_cases hks : (kindS s : Int) = 3
    rotate_left
    · rw [if_neg (fun h => hks (by have := h.1; omega))] at hN
      simp only [Option.map_none] at hN
      rw [hN] at hX
      simp (maxSteps := 1000000) (disch := first | omega | (simp only [sizeAlloc, sizeDrew, sizeSet, sizePut] <;> omega) | fail) only [GS, TT_eq, TTl, Nat.reduceAdd, Nat.reduceMul, Nat.reduceSub, Nat.reduceDiv, Nat.reduceMod, Nat.reducePow, Nat.reduceEqDiff, ↓reduceIte, reduceCtorEq, Int.reduceToNat, Int.reduceAdd, Int.reduceSub, Int.reduceMul, hks]
      exact h0 hX.symm _ hM013
    by_cases hl2 : ((m.length : Nat) : Int) = 2
    rotate_left
    · rw [if_neg (fun h => hl2 (by omega))] at hN
      simp only [Option.map_none] at hN
      rw [hN] at hX
      simp (maxSteps := 1000000) (disch := first | omega | (simp only [sizeAlloc, sizeDrew, sizeSet, sizePut] <;> omega) | fail) only [GS, TT_eq, TTl, Nat.reduceAdd, Nat.reduceMul, Nat.reduceSub, Nat.reduceDiv, Nat.reduceMod, Nat.reducePow, Nat.reduceEqDiff, ↓reduceIte, reduceCtorEq, Int.reduceToNat, Int.reduceAdd, Int.reduceSub, Int.reduceMul, hks, hl2]
      exact h0 hX.symm _ hM013
    rw [if_pos ⟨by omega, by omega⟩] at hN
    simp only at hN
    obtain ⟨s0, s1, rfl⟩ := len2 (show m.length = 2 by omega)
    simp only [List.getD_cons_zero] at hN
    have y0 := (check0 (hmc s0 (by simp))).2.2.1
    obtain ⟨b3, o3, c3, e3, _, g3⟩ := hmR3.at (by simp) (by simp)
    have f2 : w13.cell? ⟨b3, o3, none⟩ = some (.string ⟨s0.toArray⟩) := g3 0 _ rfl
    rw [Value.slice.injEq] at e3
    obtain ⟨rfl, -, rfl⟩ := e3
    simp (maxSteps := 1000000) (disch := first | omega | (simp only [sizeAlloc, sizeDrew, sizeSet, sizePut] <;> omega) | fail) only [GS, TT_eq, TTl, Nat.reduceAdd, Nat.reduceMul, Nat.reduceSub, Nat.reduceDiv, Nat.reduceMod, Nat.reducePow, Nat.reduceEqDiff, ↓reduceIte, reduceCtorEq, Int.reduceToNat, Int.reduceAdd, Int.reduceSub, Int.reduceMul, hks, hl2, f2]
    refine ⟨fok80, rReadNumA_cps s0 (by unfold maxLen; omega) _ _ fun w14 hM14 => .inl ⟨_, rfl, hold_ops okT (rs := [.tmp 2, .tmp 3]) rfl ?_⟩⟩
    have hM014 := hM013.trans hM14 (by simp)
    have hM1014 := (hM11.trans hM113 (by simp)).trans hM14 (by simp)
    have hown4 := ownsRow_mod hown3 hM14 (by simp)
    cases hv : numT s0 with
    | none =>
      rw [hv] at hN
      simp only [Option.map_none] at hN
      rw [hN] at hX
      unfold nuV
      simp (maxSteps := 1000000) (disch := first | omega | (simp only [sizeAlloc, sizeDrew, sizeSet, sizePut] <;> omega) | fail) only [GS, TT_eq, TTl, Nat.reduceAdd, Nat.reduceMul, Nat.reduceSub, Nat.reduceDiv, Nat.reduceMod, Nat.reducePow, Nat.reduceEqDiff, ↓reduceIte, reduceCtorEq, Int.reduceToNat, Int.reduceAdd, Int.reduceSub, Int.reduceMul]
      exact h0 hX.symm _ hM014
    | some v =>
      rw [hv] at hN
      simp only at hN
      unfold nuV
      simp (maxSteps := 1000000) (disch := first | omega | (simp only [sizeAlloc, sizeDrew, sizeSet, sizePut] <;> omega) | fail) only [GS, TT_eq, TTl, Nat.reduceAdd, Nat.reduceMul, Nat.reduceSub, Nat.reduceDiv, Nat.reduceMod, Nat.reducePow, Nat.reduceEqDiff, ↓reduceIte, reduceCtorEq, Int.reduceToNat, Int.reduceAdd, Int.reduceSub, Int.reduceMul]
      refine hold_append1 okT rfl rfl rfl rfl rfl w10.heap.size hown4 rfl rfl (u := kV v) rfl (by simp only; omega) (by unfold maxLen; omega) hM1014.size fun v' w15 hown5 hM15 _ => hold_ops okT (rs := [.tmp 2, .tmp 3]) rfl ?_
      have hob : ∀ y ∈ (Value.slice va r.length vc).ownBlock.toList, w10.heap.size ≤ y := fun y hy => (hown4.lt y (by simpa using hy)).1
      have hM1015 := hM1014.trans hM15 (fun y hy => .inr (hob y hy))
      simp (maxSteps := 1000000) (disch := first | omega | (simp only [sizeAlloc, sizeDrew, sizeSet, sizePut] <;> omega) | fail) only [GS, TT_eq, TTl, Nat.reduceAdd, Nat.reduceMul, Nat.reduceSub, Nat.reduceDiv, Nat.reduceMod, Nat.reducePow, Nat.reduceEqDiff, ↓reduceIte, reduceCtorEq, Int.reduceToNat, Int.reduceAdd, Int.reduceSub, Int.reduceMul]
      refine ⟨⟨k + 1, v', r ++ [v], rfl, by omega, by rw [List.length_append]; simp; omega, ?_, by rw [List.length_append, List.map_append]; exact hown5, hM1015⟩, by omega⟩
      rw [hN]
      cases numsO (q.drop (k + 1)) <;> simp
  · have e : k = q.length := by omega
    subst e
    rw [List.drop_length] at hN
    simp only [numsO, Option.map_some, List.append_nil] at hN
    rw [hN] at hX
    simp (maxSteps := 1000000) (disch := first | omega | (simp only [sizeAlloc, sizeDrew, sizeSet, sizePut] <;> omega) | fail) only [GS, TT_eq, TTl, Nat.reduceAdd, Nat.reduceMul, Nat.reduceSub, Nat.reduceDiv, Nat.reduceMod, Nat.reducePow, Nat.reduceEqDiff, ↓reduceIte, reduceCtorEq, Int.reduceToNat, Int.reduceAdd, Int.reduceSub, Int.reduceMul, hcl, cellsL_one hcl]
    exact h1 r _ _ hX.symm (by omega) (ownsRow_base hown hb10) hM011
set_option maxHeartbeats 8000000 in
theorem rTwice_cps (ns : List Nat) (sv : Value) (w : World) (hl : ns.length ≤ 1000000) (ha : Rd w 1 sv ns.length (ns.map kV)) (R : Ending → World → Prop) (hR : ∀ w', Mod [] w w' → R (.returned (.bool (!decide ns.Nodup))) w') :
    Calls Tryz.prog 78 #[sv] w R := by
  obtain ⟨pa, pc, rfl⟩ := ha.slice
  refine calls_go 4000 okT Tryz.func78 rfl (rs := [.tmp 2]) rfl Tryz.ntmps78 (args := [.slice pa ns.length pc]) ?_
  simp (maxSteps := 1000000) (disch := first | omega | (simp only [sizeAlloc, sizeDrew, sizeSet, sizePut] <;> omega) | fail) only [GS, TT_eq, TTl, Nat.reduceAdd, Nat.reduceMul, Nat.reduceSub, Nat.reduceDiv, Nat.reduceMod, Nat.reducePow, Nat.reduceEqDiff, ↓reduceIte, reduceCtorEq, Int.reduceToNat, Int.reduceAdd, Int.reduceSub, Int.reduceMul]
  refine hold_loop okT (rs := [.tmp 2]) rfl [3] [2, 4, 5, 6, 7, 8, 9, 10, 11, 12, 13, 14, 15, 16, 17, 18, 19, 20, 21, 22, 23, 24] (fun vs w' => ∃ k : Nat, vs = [.int .i64 k] ∧ k ≤ ns.length ∧ (ns.take k).Nodup ∧ Mod [] w w') (fun vs _ => match vs with | [.int _ i] => ns.length - i.toNat | _ => 0) (by kernel_rfl) ⟨0, rfl, by omega, by simp, Mod.refl _ _⟩ ?_
  rintro vs w1 J ⟨k, rfl, hk, hnd, hM1⟩
  by_cases hlt : k < ns.length
  rotate_left
  · have e : k = ns.length := by omega
    subst e
    rw [List.take_length] at hnd
    rw [decide_eq_true hnd] at hR
    simp (maxSteps := 1000000) (disch := first | omega | (simp only [sizeAlloc, sizeDrew, sizeSet, sizePut] <;> omega) | fail) only [GS, TT_eq, TTl, Nat.reduceAdd, Nat.reduceMul, Nat.reduceSub, Nat.reduceDiv, Nat.reduceMod, Nat.reducePow, Nat.reduceEqDiff, ↓reduceIte, reduceCtorEq, Int.reduceToNat, Int.reduceAdd, Int.reduceSub, Int.reduceMul]
    exact hR _ hM1
  have htk := List.take_succ_eq_append_getElem hlt
  have hgk : ns[k]? = some ns[k] := List.getElem?_eq_getElem hlt
  simp (maxSteps := 1000000) (disch := first | omega | (simp only [sizeAlloc, sizeDrew, sizeSet, sizePut] <;> omega) | fail) only [GS, TT_eq, TTl, Nat.reduceAdd, Nat.reduceMul, Nat.reduceSub, Nat.reduceDiv, Nat.reduceMod, Nat.reducePow, Nat.reduceEqDiff, ↓reduceIte, reduceCtorEq, Int.reduceToNat, Int.reduceAdd, Int.reduceSub, Int.reduceMul]
  refine hold_loop okT (rs := [.tmp 2]) rfl [4] [2, 11, 12, 13, 14, 15, 16, 17, 18, 19, 20, 21, 22, 23, 24] (fun vs w' => ∃ j : Nat, vs = [.int .i64 j] ∧ j ≤ k ∧ (∀ i, (hi : i < j) → (hj : i < ns.length) → ns[i] ≠ ns[k]) ∧ Mod [] w1 w') (fun vs _ => match vs with | [.int _ i] => k - i.toNat | _ => 0) (by kernel_rfl) ⟨0, rfl, by omega, by omega, Mod.refl _ _⟩ ?_
  rintro vs w2 J ⟨j, rfl, hj, hne, hM2⟩
  have hM02 := hM1.trans hM2 (by simp)
  by_cases hjk : j < k
  rotate_left
  · have e : j = k := by omega
    subst e
    simp (maxSteps := 1000000) (disch := first | omega | (simp only [sizeAlloc, sizeDrew, sizeSet, sizePut] <;> omega) | fail) only [GS, TT_eq, TTl, Nat.reduceAdd, Nat.reduceMul, Nat.reduceSub, Nat.reduceDiv, Nat.reduceMod, Nat.reducePow, Nat.reduceEqDiff, ↓reduceIte, reduceCtorEq, Int.reduceToNat, Int.reduceAdd, Int.reduceSub, Int.reduceMul]
    refine ⟨⟨j + 1, rfl, by omega, ?_, hM02⟩, by omega⟩
    rw [htk, List.nodup_append]
    refine ⟨hnd, by simp, ?_⟩
    intro a ha b hb
    rw [List.mem_singleton.1 hb]
    obtain ⟨i, hi, rfl⟩ := List.getElem_of_mem ha
    rw [List.getElem_take]
    rw [List.length_take] at hi
    exact hne i (by omega) (by omega)
  obtain ⟨b1, o1, c1, e1, _, g1⟩ := (ha.mod hM02 (by simp)).at (by omega) (by omega)
  have hjl : j < ns.length := by omega
  have f1 : w2.cell? ⟨b1, o1 + k, none⟩ = some (.int .i64 ((ns[k] : Nat) : Int)) := g1 k _ (by rw [List.getElem?_map, hgk]; rfl)
  have f2 : w2.cell? ⟨b1, o1 + j, none⟩ = some (.int .i64 ((ns[j] : Nat) : Int)) := g1 j _ (by rw [List.getElem?_map, List.getElem?_eq_getElem hjl]; rfl)
  rw [Value.slice.injEq] at e1
  obtain ⟨rfl, -, -⟩ := e1
  have hbad : ns[j] = ns[k] → ¬ ns.Nodup := fun h hn => by
    have hpw := List.pairwise_iff_getElem.1 hn
    exact hpw j k hjl hlt hjk h
  have hnex : ∀ i, (hi : i < j + 1) → (hj : i < ns.length) → ns[j] ≠ ns[k] → ns[i] ≠ ns[k] := fun i hi hil hn => by
    by_cases h : i = j
    · subst h; exact hn
    · exact hne i (by omega) hil
  by_cases he : ((ns[k] : Nat) : Int) = ((ns[j] : Nat) : Int)
  · rw [decide_eq_false (hbad (by omega))] at hR
    simp (maxSteps := 1000000) (disch := first | omega | (simp only [sizeAlloc, sizeDrew, sizeSet, sizePut] <;> omega) | fail) only [GS, TT_eq, TTl, Nat.reduceAdd, Nat.reduceMul, Nat.reduceSub, Nat.reduceDiv, Nat.reduceMod, Nat.reducePow, Nat.reduceEqDiff, ↓reduceIte, reduceCtorEq, Int.reduceToNat, Int.reduceAdd, Int.reduceSub, Int.reduceMul, f1, f2, he, eq_self]
    refine ⟨by kernel_rfl, fun d => ?_⟩
    exact hR _ (hM02.drewN d)
  · simp (maxSteps := 1000000) (disch := first | omega | (simp only [sizeAlloc, sizeDrew, sizeSet, sizePut] <;> omega) | fail) only [GS, TT_eq, TTl, Nat.reduceAdd, Nat.reduceMul, Nat.reduceSub, Nat.reduceDiv, Nat.reduceMod, Nat.reducePow, Nat.reduceEqDiff, ↓reduceIte, reduceCtorEq, Int.reduceToNat, Int.reduceAdd, Int.reduceSub, Int.reduceMul, f1, f2, he]
    refine ⟨by kernel_rfl, fun d => ?_⟩
    exact ⟨⟨j + 1, rfl, by omega, fun i hi hil => hnex i hi hil (by omega), hM2.drewN d⟩, by omega⟩
end Go.Proofs.YtpcilobbohokcaaGreat
