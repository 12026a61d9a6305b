/-
  The reference's ReadMembers (walk).
-/
import Derived.Test.YthnlmmkhehphiaaGreatDoorBtRefD
set_option linter.unusedSimpArgs false
set_option linter.unusedVariables false
set_option maxRecDepth 20000
namespace Go.Proofs.YthnlmmkhehphiaaGreatDoor
open Go Go.Wk Go.RowKit
attribute [local irreducible] go Hold
open Go.Lib
set_option maxRecDepth 20000 in
set_option maxHeartbeats 16000000 in
theorem rReadMembers12_cps (x : Tx) (S : List UInt8) (hS : S.length ≤ maxLen) (w : World) (R : Ending → World → Prop)
    (h1 : ∀ l sv w', unmbS x.1 S = some l → w'.ownsRow w.heap.size 65 2 sv l.length (l.flatMap mbC) → Mod [] w w' → R (.returned (.tuple #[sv, .bool true])) w') (h0 : unmbS x.1 S = none → ∀ w', Mod [] w w' → R (.returned (.tuple #[.slice none 0 0, .bool false])) w') :
    Calls Tryz.prog 83 #[txV x, .string ⟨S.toArray⟩] w R := by
  have hMM := rMayMembers_cps x
  obtain ⟨a, b, c⟩ := x
  generalize hX : unmbS (a, b, c).1 S = X at h1 h0
  rw [← unmA_eq] at hX
  unfold unmA at hX
  unfold txV at hMM ⊢
  simp only at hMM hX ⊢
  refine calls_go 4000 okT Tryz.func83 rfl (rs := [.tmp 4, .tmp 5]) rfl Tryz.ntmps83 (args := [.agg #[.int .i64 a, .int .i64 b, .int .i64 c], .string ⟨S.toArray⟩]) ?_
  simp (maxSteps := 1000000) (disch := first | omega | (simp only [sizeAlloc, sizeDrew, sizeSet, sizePut] <;> omega) | fail) only [GS, TT_eq, TTl, Nat.reduceAdd, Nat.reduceMul, Nat.reduceSub, Nat.reduceDiv, Nat.reduceMod, Nat.reducePow, Nat.reduceEqDiff, ↓reduceIte, reduceCtorEq, Int.reduceToNat, Int.reduceAdd, Int.reduceSub, Int.reduceMul]
  have hM := (Mod.refl [] w).alloc (.cells #[.int .i64 a, .int .i64 b, .int .i64 c] 23)
  have hb := heapNew (w := w) (o := .cells #[.int .i64 a, .int .i64 b, .int .i64 c] 23)
  generalize w.alloc (.cells #[.int .i64 a, .int .i64 b, .int .i64 c] 23) = w1 at hM hb ⊢
  generalize hn : w.heap.size = n at *
  refine ⟨fok59, rPartsA_cps S hS _ _ (fun hc w2 hM2 => .inl ⟨_, rfl, hold_ops okT (rs := [.tmp 4, .tmp 5]) rfl ?_⟩) (fun hc pv w2 hpo hM2 => .inl ⟨_, rfl, hold_ops okT (rs := [.tmp 4, .tmp 5]) rfl ?_⟩)⟩
  · have hk : kindS S = 0 := by unfold kindS; rw [if_neg hc]
    rw [if_neg (by omega)] at hX
    simp (maxSteps := 1000000) (disch := first | omega | (simp only [sizeAlloc, sizeDrew, sizeSet, sizePut] <;> omega) | fail) only [GS, TT_eq, TTl, Nat.reduceAdd, Nat.reduceMul, Nat.reduceSub, Nat.reduceDiv, Nat.reduceMod, Nat.reducePow, Nat.reduceEqDiff, ↓reduceIte, reduceCtorEq, Int.reduceToNat, Int.reduceAdd, Int.reduceSub, Int.reduceMul]
    refine ⟨fok60, rKindA_cps S hS _ _ fun w3 hM3 => .inl ⟨_, rfl, hold_ops okT (rs := [.tmp 4, .tmp 5]) rfl ?_⟩⟩
    rw [hk]
    simp (maxSteps := 1000000) (disch := first | omega | (simp only [sizeAlloc, sizeDrew, sizeSet, sizePut] <;> omega) | fail) only [GS, TT_eq, TTl, Nat.reduceAdd, Nat.reduceMul, Nat.reduceSub, Nat.reduceDiv, Nat.reduceMod, Nat.reducePow, Nat.reduceEqDiff, ↓reduceIte, reduceCtorEq, Int.reduceToNat, Int.reduceAdd, Int.reduceSub, Int.reduceMul]
    exact h0 hX.symm _ ((hM.trans hM2 (by simp)).trans hM3 (by simp))
  have hpc := parts_ok hc
  have hlp := partsS_len S
  have hlS := (check0 hc).2.2.1
  have hpR := Rd.own hpo
  generalize hps : partsS S = ps at *
  obtain ⟨pa, pc, rfl⟩ := hpR.slice
  simp (maxSteps := 1000000) (disch := first | omega | (simp only [sizeAlloc, sizeDrew, sizeSet, sizePut] <;> omega) | fail) only [GS, TT_eq, TTl, Nat.reduceAdd, Nat.reduceMul, Nat.reduceSub, Nat.reduceDiv, Nat.reduceMod, Nat.reducePow, Nat.reduceEqDiff, ↓reduceIte, reduceCtorEq, Int.reduceToNat, Int.reduceAdd, Int.reduceSub, Int.reduceMul]
  refine ⟨fok60, rKindA_cps S hS _ _ fun w3 hM3 => .inl ⟨_, rfl, hold_ops okT (rs := [.tmp 4, .tmp 5]) rfl ?_⟩⟩
  have hM13 := hM2.trans hM3 (by simp)
  have hM03 := hM.trans hM13 (by simp)
  have hb3 := hM13.get hb (by simp)
  have hpR3 := hpR.mod hM3 (by simp)
  by_cases hk : (kindS S : Int) = 3
  rotate_left
  · rw [if_neg (by omega)] at hX
    simp (maxSteps := 1000000) (disch := first | omega | (simp only [sizeAlloc, sizeDrew, sizeSet, sizePut] <;> omega) | fail) only [GS, TT_eq, TTl, Nat.reduceAdd, Nat.reduceMul, Nat.reduceSub, Nat.reduceDiv, Nat.reduceMod, Nat.reducePow, Nat.reduceEqDiff, ↓reduceIte, reduceCtorEq, Int.reduceToNat, Int.reduceAdd, Int.reduceSub, Int.reduceMul, hk]
    exact h0 hX.symm _ hM03
  rw [if_pos (by omega)] at hX
  simp (maxSteps := 1000000) (disch := first | omega | (simp only [sizeAlloc, sizeDrew, sizeSet, sizePut] <;> omega) | fail) only [GS, TT_eq, TTl, Nat.reduceAdd, Nat.reduceMul, Nat.reduceSub, Nat.reduceDiv, Nat.reduceMod, Nat.reducePow, Nat.reduceEqDiff, ↓reduceIte, reduceCtorEq, Int.reduceToNat, Int.reduceAdd, Int.reduceSub, Int.reduceMul, hk]
  refine hold_loop okT (rs := [.tmp 4, .tmp 5]) rfl [8, 9] [4, 5, 10, 11, 12, 13, 22, 23, 24, 25, 26, 27, 28, 29, 30, 31, 32, 33, 34, 35, 36, 37, 38, 39, 40, 41, 42, 43, 44, 45, 46, 47, 48, 49, 50, 51, 52, 53, 54, 55, 56, 57, 58, 59, 60, 61, 62, 63] (fun vs w' => ∃ (k : Nat) (sv : Value) (r : List Mb), vs = [sv, .int .i64 k] ∧ k ≤ ps.length ∧ r.length = k ∧ (∀ m ∈ r, m.2.length ≤ maxLen) ∧ unL ps = (unL (ps.drop k)).map (r ++ ·) ∧ w'.ownsRow w3.heap.size 65 2 sv r.length (r.flatMap mbC) ∧ Mod [] w3 w') (fun vs _ => match vs with | [_, .int _ i] => ps.length - i.toNat | _ => 0) (by kernel_rfl) ⟨0, .slice none 0 0, [], rfl, by omega, rfl, by simp, by rw [List.drop_zero]; cases unL ps <;> rfl, World.ownsRow_nil _ _ _ _, Mod.refl _ _⟩ ?_
  rintro vs w4 J ⟨k, sv, r, rfl, hk4, hrl, hrc, hN, hown, hM4⟩
  have hM04 := hM03.trans hM4 (by simp)
  have hrd := hpR3.mod hM4 (by simp)
  have hcl := ownsRow_one hown
  obtain ⟨va, vc, rfl⟩ := (Rd.own hown).slice
  by_cases hlt : k < ps.length
  · obtain ⟨b1, o1, c1, e1, _, g1⟩ := hrd.at (by omega) (by omega)
    have f1 : w4.cell? ⟨b1, o1 + k, none⟩ = some (.string ⟨(ps[k]).toArray⟩) := g1 k _ (getS hlt)
    rw [Value.slice.injEq] at e1
    obtain ⟨rfl, -, -⟩ := e1
    have hsc := hpc _ (List.getElem_mem hlt)
    rw [List.drop_eq_getElem_cons hlt, unL] at hN
    generalize ps[k] = s at *
    have hsl := (check0 hsc).2.2.1
    unfold oneM rowO at hN
    have hqc := parts_ok hsc
    simp (maxSteps := 1000000) (disch := first | omega | (simp only [sizeAlloc, sizeDrew, sizeSet, sizePut] <;> omega) | fail) only [GS, TT_eq, TTl, Nat.reduceAdd, Nat.reduceMul, Nat.reduceSub, Nat.reduceDiv, Nat.reduceMod, Nat.reducePow, Nat.reduceEqDiff, ↓reduceIte, reduceCtorEq, Int.reduceToNat, Int.reduceAdd, Int.reduceSub, Int.reduceMul, f1]
    refine ⟨fok59, rPartsA_cps s (by unfold maxLen; omega) _ _ (fun h => absurd hsc h) (fun _ qv w5 hqo hM5 => .inl ⟨_, rfl, hold_ops okT (rs := [.tmp 4, .tmp 5]) rfl ?_⟩)⟩
    have f1 := cellM f1 hM5
    have hqR := Rd.own hqo
    generalize hqs : partsS s = q at *
    have hlq : q.length ≤ 16384 := by have := partsS_len s; rw [hqs] at this; omega
    obtain ⟨qa, qc, rfl⟩ := hqR.slice
    simp (maxSteps := 1000000) (disch := first | omega | (simp only [sizeAlloc, sizeDrew, sizeSet, sizePut] <;> omega) | fail) only [GS, TT_eq, TTl, Nat.reduceAdd, Nat.reduceMul, Nat.reduceSub, Nat.reduceDiv, Nat.reduceMod, Nat.reducePow, Nat.reduceEqDiff, ↓reduceIte, reduceCtorEq, Int.reduceToNat, Int.reduceAdd, Int.reduceSub, Int.reduceMul, f1]
    refine ⟨fok60, rKindA_cps s (by unfold maxLen; omega) _ _ fun w6 hM6 => .inl ⟨_, rfl, hold_ops okT (rs := [.tmp 4, .tmp 5]) rfl ?_⟩⟩
    have hM46 := hM5.trans hM6 (by simp)
    have hM06 := hM04.trans hM46 (by simp)
    have hqR6 := hqR.mod hM6 (by simp)
    have hown6 := ownsRow_mod hown hM46 (by simp)
    by_cases hks : (kindS s : Int) = 3
    rotate_left
    · rw [if_neg (fun h => hks (by have := h.1; omega))] at hN
      simp only at hN
      rw [hN] at hX
      simp (maxSteps := 1000000) (disch := first | omega | (simp only [sizeAlloc, sizeDrew, sizeSet, sizePut] <;> omega) | fail) only [GS, TT_eq, TTl, Nat.reduceAdd, Nat.reduceMul, Nat.reduceSub, Nat.reduceDiv, Nat.reduceMod, Nat.reducePow, Nat.reduceEqDiff, ↓reduceIte, reduceCtorEq, Int.reduceToNat, Int.reduceAdd, Int.reduceSub, Int.reduceMul, hks]
      exact h0 hX.symm _ hM06
    by_cases hl2 : ((q.length : Nat) : Int) = 2
    rotate_left
    · rw [if_neg (fun h => hl2 (by omega))] at hN
      simp only at hN
      rw [hN] at hX
      simp (maxSteps := 1000000) (disch := first | omega | (simp only [sizeAlloc, sizeDrew, sizeSet, sizePut] <;> omega) | fail) only [GS, TT_eq, TTl, Nat.reduceAdd, Nat.reduceMul, Nat.reduceSub, Nat.reduceDiv, Nat.reduceMod, Nat.reducePow, Nat.reduceEqDiff, ↓reduceIte, reduceCtorEq, Int.reduceToNat, Int.reduceAdd, Int.reduceSub, Int.reduceMul, hks, hl2]
      exact h0 hX.symm _ hM06
    rw [if_pos ⟨by omega, by omega, by omega⟩] at hN
    simp only at hN
    obtain ⟨t0, t1, rfl⟩ := len2 (show q.length = 2 by omega)
    simp only [List.getD_cons_zero, List.getD_cons_succ] at hN
    have z0 := (check0 (hqc t0 (by simp))).2.2.1
    have z1 := (check0 (hqc t1 (by simp))).2.2.1
    obtain ⟨b2, o2, c2, e2, _, g2⟩ := hqR6.at (by simp) (by simp)
    have f2 : w6.cell? ⟨b2, o2, none⟩ = some (.string ⟨t0.toArray⟩) := g2 0 _ rfl
    have f3 : w6.cell? ⟨b2, o2 + 1, none⟩ = some (.string ⟨t1.toArray⟩) := g2 1 _ rfl
    rw [Value.slice.injEq] at e2
    obtain ⟨rfl, -, rfl⟩ := e2
    simp (maxSteps := 1000000) (disch := first | omega | (simp only [sizeAlloc, sizeDrew, sizeSet, sizePut] <;> omega) | fail) only [GS, TT_eq, TTl, Nat.reduceAdd, Nat.reduceMul, Nat.reduceSub, Nat.reduceDiv, Nat.reduceMod, Nat.reducePow, Nat.reduceEqDiff, ↓reduceIte, reduceCtorEq, Int.reduceToNat, Int.reduceAdd, Int.reduceSub, Int.reduceMul, hks, hl2, f2]
    refine ⟨fok84, rReadNumA_cps t0 (by unfold maxLen; omega) _ _ fun w7 hM7 => .inl ⟨_, rfl, hold_ops okT (rs := [.tmp 4, .tmp 5]) rfl ?_⟩⟩
    have hM07 := hM06.trans hM7 (by simp)
    have hM37 := (hM4.trans hM46 (by simp)).trans hM7 (by simp)
    have f3 := cellM f3 hM7
    have hown7 := ownsRow_mod hown6 hM7 (by simp)
    cases hv : numT t0 with
    | none =>
      rw [hv] at hN
      try simp only [Option.map_none] at hN
      rw [hN] at hX
      unfold nuV
      simp (maxSteps := 1000000) (disch := first | omega | (simp only [sizeAlloc, sizeDrew, sizeSet, sizePut] <;> omega) | fail) only [GS, TT_eq, TTl, Nat.reduceAdd, Nat.reduceMul, Nat.reduceSub, Nat.reduceDiv, Nat.reduceMod, Nat.reducePow, Nat.reduceEqDiff, ↓reduceIte, reduceCtorEq, Int.reduceToNat, Int.reduceAdd, Int.reduceSub, Int.reduceMul]
      exact h0 hX.symm _ hM07
    | some v =>
      rw [hv] at hN
      try simp only [Option.map_some] at hN
      unfold nuV
      simp (maxSteps := 1000000) (disch := first | omega | (simp only [sizeAlloc, sizeDrew, sizeSet, sizePut] <;> omega) | fail) only [GS, TT_eq, TTl, Nat.reduceAdd, Nat.reduceMul, Nat.reduceSub, Nat.reduceDiv, Nat.reduceMod, Nat.reducePow, Nat.reduceEqDiff, ↓reduceIte, reduceCtorEq, Int.reduceToNat, Int.reduceAdd, Int.reduceSub, Int.reduceMul, f3]
      refine hold_appendN okT rfl rfl rfl rfl (by decide) w3.heap.size hown7 rfl rfl (news := mbC ((v : Int), t1)) rfl (by decide) (by simp [Value.oneCell', mbC]) (by simp only; omega) (by unfold maxLen; omega) hM37.size fun v' w8 hown8 hM8 _ => hold_ops okT (rs := [.tmp 4, .tmp 5]) rfl ?_
      have hob : ∀ y ∈ (Value.slice va r.length vc).ownBlock.toList, w3.heap.size ≤ y := fun y hy => (hown7.lt y (by simpa using hy)).1
      have hM38 := hM37.trans hM8 (fun y hy => .inr (hob y hy))
      simp (maxSteps := 1000000) (disch := first | omega | (simp only [sizeAlloc, sizeDrew, sizeSet, sizePut] <;> omega) | fail) only [GS, TT_eq, TTl, Nat.reduceAdd, Nat.reduceMul, Nat.reduceSub, Nat.reduceDiv, Nat.reduceMod, Nat.reducePow, Nat.reduceEqDiff, ↓reduceIte, reduceCtorEq, Int.reduceToNat, Int.reduceAdd, Int.reduceSub, Int.reduceMul]
      refine ⟨⟨k + 1, _, r ++ [((v : Int), t1)], rfl, by omega, by rw [List.length_append]; simp; omega, ?_, ?_, ?_, hM38⟩, by omega⟩
      · intro m hm
        rw [List.mem_append, List.mem_singleton] at hm
        rcases hm with hm | rfl
        · exact hrc m hm
        · unfold maxLen; simp only; omega
      · rw [hN]
        cases unL (ps.drop (k + 1)) with
        | none => rfl
        | some q => simp
      · rw [List.length_append, List.flatMap_append, List.flatMap_singleton]
        exact hown8
  · have e : k = ps.length := by omega
    subst e
    rw [List.drop_length, unL] at hN
    simp only [Option.map_some, List.append_nil] at hN
    rw [hN] at hX
    simp only at hX
    have hb4 := hM4.get hb3 (by simp)
    have c4 := fun o => cellOf (o := o) hb4
    simp (maxSteps := 1000000) (disch := first | omega | (simp only [sizeAlloc, sizeDrew, sizeSet, sizePut] <;> omega) | fail) only [GS, TT_eq, TTl, Nat.reduceAdd, Nat.reduceMul, Nat.reduceSub, Nat.reduceDiv, Nat.reduceMod, Nat.reducePow, Nat.reduceEqDiff, ↓reduceIte, reduceCtorEq, Int.reduceToNat, Int.reduceAdd, Int.reduceSub, Int.reduceMul, c4]
    refine ⟨fok77, hMM _ r _ _ (by omega) hrc (Rd.own hown) fun w5 hM5 => .inl ⟨_, rfl, hold_ops okT (rs := [.tmp 4, .tmp 5]) rfl ?_⟩⟩
    have hM05 := hM04.trans hM5 (by simp)
    cases hb : mbB a r
    · rw [if_neg (by rw [hb]; simp)] at hX
      simp (maxSteps := 1000000) (disch := first | omega | (simp only [sizeAlloc, sizeDrew, sizeSet, sizePut] <;> omega) | fail) only [GS, TT_eq, TTl, Nat.reduceAdd, Nat.reduceMul, Nat.reduceSub, Nat.reduceDiv, Nat.reduceMod, Nat.reducePow, Nat.reduceEqDiff, ↓reduceIte, reduceCtorEq, Int.reduceToNat, Int.reduceAdd, Int.reduceSub, Int.reduceMul]
      exact h0 hX.symm _ hM05
    · rw [if_pos hb] at hX
      simp (maxSteps := 1000000) (disch := first | omega | (simp only [sizeAlloc, sizeDrew, sizeSet, sizePut] <;> omega) | fail) only [GS, TT_eq, TTl, Nat.reduceAdd, Nat.reduceMul, Nat.reduceSub, Nat.reduceDiv, Nat.reduceMod, Nat.reducePow, Nat.reduceEqDiff, ↓reduceIte, reduceCtorEq, Int.reduceToNat, Int.reduceAdd, Int.reduceSub, Int.reduceMul]
      have hsz := hM03.size
      exact h1 r _ _ hX.symm (ownsRow_base (ownsRow_mod hown hM5 (by simp)) (by omega)) hM05
end Go.Proofs.YthnlmmkhehphiaaGreatDoor
