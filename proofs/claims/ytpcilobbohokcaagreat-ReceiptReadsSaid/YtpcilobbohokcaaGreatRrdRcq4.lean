/-
  The reference's Decode of a receipt (plain, and the walk).
-/
import Derived.Test.YtpcilobbohokcaaGreatRrdRcq2
import Derived.Test.YtpcilobbohokcaaGreatRrdRcq3
import Derived.Test.YtpcilobbohokcaaGreatRrdC4
set_option linter.unusedSimpArgs false
set_option linter.unusedVariables false
set_option maxRecDepth 20000
namespace Go.Proofs.YtpcilobbohokcaaGreat
open Go Go.Wk Go.RowKit
attribute [local irreducible] go Hold
open Go.Lib
/-- What a term would be read as, if it has the parts of a receipt. -/
def rdR (S : List UInt8) : Rcp := ⟨(untxO ((partsS S).getD 1 [])).getD (0, 0, 0), (((numT ((partsS S).getD 2 [])).getD 0 : Nat) : Int), (unmbS ((untxO ((partsS S).getD 1 [])).getD (0, 0, 0)).1 ((partsS S).getD 3 [])).getD [], partsS ((partsS S).getD 4 [])⟩
theorem decRc_eq (S : List UInt8) : decRc S = if 16384 < S.length then .error 5 else match shR S with
    | none => .error 7
    | some ns => if ns.Nodup then decM (rdR S).tx ((numT ((partsS S).getD 2 [])).getD 0) (rdR S).tags ((partsS S).getD 3 []) else .error 260 := by
  unfold decRc shR rdR
  by_cases h : 16384 < S.length
  · rw [if_pos h, if_pos h]
  rw [if_neg h, if_neg h]
  cases hr : rowR S 5 with
  | none => rfl
  | some l =>
    obtain ⟨-, hl, -⟩ := rowR_is hr
    rw [← hl]
    simp only
    generalize l.getD 0 [] = t0
    generalize l.getD 1 [] = t1
    generalize l.getD 2 [] = t2
    generalize l.getD 3 [] = t3
    generalize l.getD 4 [] = t4
    unfold decL
    by_cases h0 : t0 = (dataS RW).1
    rotate_left
    · rw [if_neg h0, if_neg (fun h => h0 h.1)]
    rw [if_pos h0]
    cases hx : untxO t1 with
    | none => simp
    | some x =>
      cases ha : numT t2 with
      | none => simp
      | some a =>
        simp only [Option.getD_some, Option.isSome_some]
        unfold decN rowR
        by_cases h4 : kindS t4 = 3
        rotate_left
        · rw [if_neg (c := kindS t4 = 3 ∧ _) (fun h => h4 h.1), if_neg (c := t0 = _ ∧ _) (fun h => h4 h.2.2.2.2)]
        rw [if_pos (c := kindS t4 = 3 ∧ _) ⟨h4, .inl (by decide)⟩]
        by_cases h3 : kindS t3 = 3
        rotate_left
        · rw [if_neg (c := kindS t3 = 3 ∧ _) (fun h => h3 h.1), if_neg (c := t0 = _ ∧ _) (fun h => h3 h.2.2.2.1)]
        rw [if_pos (c := kindS t3 = 3 ∧ _) ⟨h3, .inl (by decide)⟩, if_pos (c := t0 = _ ∧ _) ⟨h0, trivial, trivial, h3, h4⟩]
        simp only
        cases numsO (partsS t3) <;> rfl
theorem sh_is {S : List UInt8} {ns : List Nat} (h : shR S = some ns) : ∃ t0 t1 t2 t3 t4, checkS S = 0 ∧ partsS S = [t0, t1, t2, t3, t4] ∧ checkS t4 = 0 := by
  unfold shR at h
  cases hr : rowR S 5 with
  | none => rw [hr] at h; simp at h
  | some l =>
    obtain ⟨hk, hl, hn, hc, -⟩ := rowR_is hr
    obtain ⟨t0, t1, t2, t3, t4, e⟩ := len5 (show l.length = 5 by omega)
    refine ⟨t0, t1, t2, t3, t4, kind_chk hk (by decide), by rw [← hl, e], hc t4 (by rw [e]; simp)⟩
theorem decRc_enc (S : List UInt8) : decRc S = if 16384 < S.length then .error 5 else match shR S with
    | none => .error 7
    | some ns => if ns.Nodup then (if encR (rdR S) = (S, 0) then .ok (rdR S) else .error 7) else .error 260 := by
  have h := decRc_eq S
  by_cases hl : 16384 < S.length
  · rw [if_pos hl] at h ⊢; exact h
  rw [if_neg hl] at h ⊢
  cases hs : shR S with
  | none => rw [hs] at h; exact h
  | some ns =>
    rw [hs] at h
    simp only at h ⊢
    by_cases hn : ns.Nodup
    rotate_left
    · rw [if_neg hn] at h ⊢; exact h
    rw [if_pos hn] at h ⊢
    have hrd : ∀ mb, unmbS (rdR S).tx.1 ((partsS S).getD 3 []) = some mb → (⟨(rdR S).tx, (((numT ((partsS S).getD 2 [])).getD 0 : Nat) : Int), mb, (rdR S).tags⟩ : Rcp) = rdR S := by
      intro mb hm
      unfold rdR at hm ⊢
      simp only at hm ⊢
      rw [hm]
      rfl
    unfold decM at h
    by_cases he : encR (rdR S) = (S, 0)
    · rw [if_pos he]
      exact (rc_back he).1
    · rw [if_neg he]
      cases hu : unmbS (rdR S).tx.1 ((partsS S).getD 3 []) with
      | none => rw [hu] at h; exact h
      | some mb =>
        rw [hu] at h
        simp only at h
        rw [hrd mb hu] at h
        split at h
        · exact absurd (of_rc h).1 he
        · exact h
theorem load6 {w : World} {p : Nat} {K : Value → World → Prop} {x0 x1 x2 x3 x4 x5 : Value} (hh : w.heap[p]? = some (.cells #[x0, x1, x2, x3, x4, x5] 28 (0, 0))) (hK : K (.agg #[x0, x1, x2, x3, x4, x5]) w) : loadW TT 28 (.pointer (some ⟨p, 0, none⟩)) w K := by
  have c := fun o => cellOf (o := o) hh
  exact ⟨_, c 0, _, c 1, _, c 2, _, c 3, _, c 4, _, c 5, hK⟩
theorem modSet6 {F : List Nat} {v w : World} {p : Nat} {x0 x1 x2 x3 x4 x5 : Value} (h : Mod F v w) (hn : p ∈ F ∨ v.heap.size ≤ p) : Mod F v ((((((w.setCell ⟨p, 0, none⟩ x0).setCell ⟨p, 1, none⟩ x1).setCell ⟨p, 2, none⟩ x2).setCell ⟨p, 3, none⟩ x3).setCell ⟨p, 4, none⟩ x4).setCell ⟨p, 5, none⟩ x5) :=
  (((((h.set (p := ⟨p, 0, none⟩) hn x0).set (p := ⟨p, 1, none⟩) hn x1).set (p := ⟨p, 2, none⟩) hn x2).set (p := ⟨p, 3, none⟩) hn x3).set (p := ⟨p, 4, none⟩) hn x4).set (p := ⟨p, 5, none⟩) hn x5
theorem setNe6 {w : World} {p q : Nat} {o : Obj} {x0 x1 x2 x3 x4 x5 : Value} (h : w.heap[q]? = some o) (hn : q ≠ p) : ((((((w.setCell ⟨p, 0, none⟩ x0).setCell ⟨p, 1, none⟩ x1).setCell ⟨p, 2, none⟩ x2).setCell ⟨p, 3, none⟩ x3).setCell ⟨p, 4, none⟩ x4).setCell ⟨p, 5, none⟩ x5).heap[q]? = some o :=
  heapSetNe (heapSetNe (heapSetNe (heapSetNe (heapSetNe (heapSetNe h hn) hn) hn) hn) hn) hn
theorem box6 {w W : World} {t : Nat} {a0 a1 a2 a3 a4 a5 x0 x1 x2 x3 x4 x5 : Value} (h : ((((((w.alloc (.cells #[a0, a1, a2, a3, a4, a5] t)).setCell ⟨w.heap.size, 0, none⟩ x0).setCell ⟨w.heap.size, 1, none⟩ x1).setCell ⟨w.heap.size, 2, none⟩ x2).setCell ⟨w.heap.size, 3, none⟩ x3).setCell ⟨w.heap.size, 4, none⟩ x4).setCell ⟨w.heap.size, 5, none⟩ x5 = W) : W.heap[w.heap.size]? = some (.cells #[x0, x1, x2, x3, x4, x5] t (0, 0)) ∧ Mod [] w W := by
  subst h
  exact ⟨st6 heapNew, modSet6 ((Mod.refl [] w).alloc (.cells #[a0, a1, a2, a3, a4, a5] t)) (.inr (Nat.le_refl _))⟩
theorem two6 {w W : World} {A : Obj} {t : Nat} {a0 a1 a2 a3 a4 a5 x0 x1 x2 x3 x4 x5 : Value} (h : (((((((w.alloc A).alloc (.cells #[a0, a1, a2, a3, a4, a5] t)).setCell ⟨w.heap.size + 1, 0, none⟩ x0).setCell ⟨w.heap.size + 1, 1, none⟩ x1).setCell ⟨w.heap.size + 1, 2, none⟩ x2).setCell ⟨w.heap.size + 1, 3, none⟩ x3).setCell ⟨w.heap.size + 1, 4, none⟩ x4).setCell ⟨w.heap.size + 1, 5, none⟩ x5 = W) : W.heap[w.heap.size]? = some A ∧ W.heap[w.heap.size + 1]? = some (.cells #[x0, x1, x2, x3, x4, x5] t (0, 0)) ∧ Mod [] w W := by
  subst h
  have h1 := heapNew (w := w.alloc A) (o := .cells #[a0, a1, a2, a3, a4, a5] t)
  rw [sizeAlloc] at h1
  exact ⟨setNe6 (heapAlloc (heapNew (w := w) (o := A))) (by omega), st6 h1, modSet6 (((Mod.refl [] w).alloc A).alloc (.cells #[a0, a1, a2, a3, a4, a5] t)) (.inr (by omega))⟩
set_option maxRecDepth 20000 in
set_option maxHeartbeats 32000000 in
theorem rDecode26_cps (S : List UInt8) (hS : S.length ≤ maxLen) (w : World) (R : Ending → World → Prop)
    (h1 : ∀ r sm st w', decRc S = .ok r → w'.ownsRow w.heap.size 126 2 sm r.mbs.length (r.mbs.flatMap mbC) → w'.ownsRow w.heap.size 9 1 st r.tags.length (r.tags.map strV) → Mod [] w w' → R (.returned (.tuple #[rcV r sm st, .int .i64 0])) w') (h0 : ∀ c w', decRc S = .error c → Mod [] w w' → R (.returned (.tuple #[rcZ, .int .i64 c])) w') :
    Calls Tryz.prog 12 #[.string ⟨S.toArray⟩] w R := by
  have hD := decRc_enc S
  have hrdR : rdR S = rdR S := rfl
  conv at hrdR => rhs; unfold rdR
  unfold rcZ at h0
  refine calls_go 4000 okT Tryz.func12 rfl (rs := [.cell 2 28, .tmp 3]) rfl Tryz.ntmps12 (args := [.string ⟨S.toArray⟩]) ?_
  simp (maxSteps := 1000000) (disch := first | omega | (simp only [sizeAlloc, sizeDrew, sizeSet, sizePut] <;> omega) | fail) only [GS, TT_eq, TTl, Nat.reduceAdd, Nat.reduceMul, Nat.reduceSub, Nat.reduceDiv, Nat.reduceMod, Nat.reducePow, Nat.reduceEqDiff, ↓reduceIte, reduceCtorEq, Int.reduceToNat, Int.reduceAdd, Int.reduceSub, Int.reduceMul]
  generalize hW : ((((((((w.alloc (.cells #[.int .i64 0, .int .i64 0, .int .i64 0, .int .i64 0, .slice none 0 0, .slice none 0 0] 28)).alloc (.cells #[.int .i64 0, .int .i64 0, .int .i64 0, .int .i64 0, .slice none 0 0, .slice none 0 0] 28)).setCell ⟨w.heap.size + 1, 0, none⟩ (.int .i64 0)).setCell ⟨w.heap.size + 1, 1, none⟩ (.int .i64 0)).setCell ⟨w.heap.size + 1, 2, none⟩ (.int .i64 0)).setCell ⟨w.heap.size + 1, 3, none⟩ (.int .i64 0)).setCell ⟨w.heap.size + 1, 4, none⟩ (.slice none 0 0)).setCell ⟨w.heap.size + 1, 5, none⟩ (.slice none 0 0)) = w1
  obtain ⟨hZ, hN, hM0⟩ := two6 hW
  clear hW
  generalize hn : w.heap.size = n at *
  have hgeZ : w.heap.size ≤ n := by omega
  by_cases hlt : (16384 : Int) < ((S.length : Nat) : Int)
  · rw [if_pos (by omega)] at hD
    have c1 := fun o => cellOf (o := o) hN
    have x1 := fun o => frozenOf (o := o) hZ
    have y1 := fun o => cellOf (o := o) hZ
    simp (maxSteps := 1000000) (disch := first | omega | (simp only [sizeAlloc, sizeDrew, sizeSet, sizePut] <;> omega) | fail) only [GS, TT_eq, TTl, Nat.reduceAdd, Nat.reduceMul, Nat.reduceSub, Nat.reduceDiv, Nat.reduceMod, Nat.reducePow, Nat.reduceEqDiff, ↓reduceIte, reduceCtorEq, Int.reduceToNat, Int.reduceAdd, Int.reduceSub, Int.reduceMul, hlt, c1, x1, y1]
    refine load6 (st6 hZ) ?_
    exact h0 5 _ hD (modSet6 hM0 (.inr hgeZ))
  rw [if_neg (by omega)] at hD
  simp (maxSteps := 1000000) (disch := first | omega | (simp only [sizeAlloc, sizeDrew, sizeSet, sizePut] <;> omega) | fail) only [GS, TT_eq, TTl, Nat.reduceAdd, Nat.reduceMul, Nat.reduceSub, Nat.reduceDiv, Nat.reduceMod, Nat.reducePow, Nat.reduceEqDiff, ↓reduceIte, reduceCtorEq, Int.reduceToNat, Int.reduceAdd, Int.reduceSub, Int.reduceMul, hlt]
  refine ⟨fok77, rShape_cps S hS _ _ (fun ns sv w2 hns hnl hown hM2 => .inl ⟨_, rfl, hold_ops okT (rs := [.cell 2 28, .tmp 3]) rfl ?_⟩) (fun hns w2 hM2 => .inl ⟨_, rfl, hold_ops okT (rs := [.cell 2 28, .tmp 3]) rfl ?_⟩)⟩
  rotate_left
  · rw [hns] at hD
    simp only at hD
    have hZ2 := hM2.get hZ (by simp)
    have hM02 := hM0.trans hM2 (by simp)
    have c2 := fun o => cellOf (o := o) (hM2.get hN (by simp))
    have x2 := fun o => frozenOf (o := o) hZ2
    have y2 := fun o => cellOf (o := o) hZ2
    simp (maxSteps := 1000000) (disch := first | omega | (simp only [sizeAlloc, sizeDrew, sizeSet, sizePut] <;> omega) | fail) only [GS, TT_eq, TTl, Nat.reduceAdd, Nat.reduceMul, Nat.reduceSub, Nat.reduceDiv, Nat.reduceMod, Nat.reducePow, Nat.reduceEqDiff, ↓reduceIte, reduceCtorEq, Int.reduceToNat, Int.reduceAdd, Int.reduceSub, Int.reduceMul, c2, x2, y2]
    refine load6 (st6 hZ2) ?_
    exact h0 7 _ hD (modSet6 hM02 (.inr hgeZ))
  rw [hns] at hD
  simp only at hD
  have hZ2 := hM2.get hZ (by simp)
  have hN2 := hM2.get hN (by simp)
  have hM02 := hM0.trans hM2 (by simp)
  have hrn := Rd.own hown
  obtain ⟨na, nc, rfl⟩ := hrn.slice
  simp (maxSteps := 1000000) (disch := first | omega | (simp only [sizeAlloc, sizeDrew, sizeSet, sizePut] <;> omega) | fail) only [GS, TT_eq, TTl, Nat.reduceAdd, Nat.reduceMul, Nat.reduceSub, Nat.reduceDiv, Nat.reduceMod, Nat.reducePow, Nat.reduceEqDiff, ↓reduceIte, reduceCtorEq, Int.reduceToNat, Int.reduceAdd, Int.reduceSub, Int.reduceMul]
  refine ⟨fok78, rTwice_cps ns _ _ (by omega) hrn _ fun w3 hM3 => .inl ⟨_, rfl, hold_ops okT (rs := [.cell 2 28, .tmp 3]) rfl ?_⟩⟩
  have hZ3 := hM3.get hZ2 (by simp)
  have hN3 := hM3.get hN2 (by simp)
  have hM03 := hM02.trans hM3 (by simp)
  by_cases hnd : ns.Nodup
  rotate_left
  · rw [if_neg hnd] at hD
    rw [decide_eq_false hnd, Bool.not_false]
    have c3 := fun o => cellOf (o := o) hN3
    have x3 := fun o => frozenOf (o := o) hZ3
    have y3 := fun o => cellOf (o := o) hZ3
    simp (maxSteps := 1000000) (disch := first | omega | (simp only [sizeAlloc, sizeDrew, sizeSet, sizePut] <;> omega) | fail) only [GS, TT_eq, TTl, Nat.reduceAdd, Nat.reduceMul, Nat.reduceSub, Nat.reduceDiv, Nat.reduceMod, Nat.reducePow, Nat.reduceEqDiff, ↓reduceIte, reduceCtorEq, Int.reduceToNat, Int.reduceAdd, Int.reduceSub, Int.reduceMul, c3, x3, y3]
    refine load6 (st6 hZ3) ?_
    exact h0 260 _ hD (modSet6 hM03 (.inr hgeZ))
  rw [if_pos hnd] at hD
  rw [decide_eq_true hnd, Bool.not_true]
  obtain ⟨t0, t1, t2, t3, t4, hc, hps, hc4⟩ := sh_is hns
  have hpc := parts_ok hc
  have hlS := (check0 hc).2.2.1
  rw [hps] at hrdR hpc
  simp only [List.getD_cons_zero, List.getD_cons_succ] at hrdR
  clear hown hrn hnd hns hM0 hM2 hM3 hM02 hZ hZ2 hN hN2
  simp (maxSteps := 1000000) (disch := first | omega | (simp only [sizeAlloc, sizeDrew, sizeSet, sizePut] <;> omega) | fail) only [GS, TT_eq, TTl, Nat.reduceAdd, Nat.reduceMul, Nat.reduceSub, Nat.reduceDiv, Nat.reduceMod, Nat.reducePow, Nat.reduceEqDiff, ↓reduceIte, reduceCtorEq, Int.reduceToNat, Int.reduceAdd, Int.reduceSub, Int.reduceMul]
  refine ⟨fok79, rPartsA_cps S hS _ _ (fun h => absurd hc h) (fun _ pv w4 hpo hM4 => .inl ⟨_, rfl, hold_ops okT (rs := [.cell 2 28, .tmp 3]) rfl ?_⟩)⟩
  rw [hps] at hpo
  have hZ4 := hM4.get hZ3 (by simp)
  have hN4 := hM4.get hN3 (by simp)
  have hM04 := hM03.trans hM4 (by simp)
  have hpR := Rd.own hpo
  obtain ⟨pa, pc, rfl⟩ := hpR.slice
  have z1 := (check0 (hpc t1 (by simp))).2.2.1
  have z2 := (check0 (hpc t2 (by simp))).2.2.1
  have z3 := (check0 (hpc t3 (by simp))).2.2.1
  have z4 := (check0 hc4).2.2.1
  obtain ⟨b1, o1, c1, e1, _, g1⟩ := hpR.at (by simp) (by simp)
  have f1 : w4.cell? ⟨b1, o1 + 1, none⟩ = some (.string ⟨t1.toArray⟩) := g1 1 _ rfl
  have f2 : w4.cell? ⟨b1, o1 + 2, none⟩ = some (.string ⟨t2.toArray⟩) := g1 2 _ rfl
  have f3 : w4.cell? ⟨b1, o1 + 3, none⟩ = some (.string ⟨t3.toArray⟩) := g1 3 _ rfl
  have f4 : w4.cell? ⟨b1, o1 + 4, none⟩ = some (.string ⟨t4.toArray⟩) := g1 4 _ rfl
  rw [Value.slice.injEq] at e1
  obtain ⟨rfl, -, rfl⟩ := e1
  clear g1 hpR hpo hZ3 hN3 hM03 hM4 hps
  simp (maxSteps := 1000000) (disch := first | omega | (simp only [sizeAlloc, sizeDrew, sizeSet, sizePut] <;> omega) | fail) only [GS, TT_eq, TTl, Nat.reduceAdd, Nat.reduceMul, Nat.reduceSub, Nat.reduceDiv, Nat.reduceMod, Nat.reducePow, Nat.reduceEqDiff, ↓reduceIte, reduceCtorEq, Int.reduceToNat, Int.reduceAdd, Int.reduceSub, Int.reduceMul, f1]
  refine ⟨fok47, rReadTxn12_u t1 (by unfold maxLen; omega) _ _ fun w5 hM5 => .inl ⟨_, rfl, hold_stop (s' := some 11) (hold_ops okT (rs := [.cell 2 28, .tmp 3]) rfl ?_)⟩⟩
  generalize (untxO t1).getD (0, 0, 0) = T at *
  obtain ⟨xa, xb, xc⟩ := T
  unfold txV
  simp only at hrdR ⊢
  simp (maxSteps := 1000000) (disch := first | omega | (simp only [sizeAlloc, sizeDrew, sizeSet, sizePut] <;> omega) | fail) only [GS, TT_eq, TTl, Nat.reduceAdd, Nat.reduceMul, Nat.reduceSub, Nat.reduceDiv, Nat.reduceMod, Nat.reducePow, Nat.reduceEqDiff, ↓reduceIte, reduceCtorEq, Int.reduceToNat, Int.reduceAdd, Int.reduceSub, Int.reduceMul]
  generalize hW : (((w5.alloc (.cells #[.int .i64 0, .int .i64 0, .int .i64 0] 24)).setCell ⟨w5.heap.size, 0, none⟩ (.int .i64 xa)).setCell ⟨w5.heap.size, 1, none⟩ (.int .i64 xb)).setCell ⟨w5.heap.size, 2, none⟩ (.int .i64 xc) = w6
  obtain ⟨hX6, hM56⟩ := box3 hW
  clear hW
  have hM46 := hM5.trans hM56 (by simp)
  have hb5 : n ≤ w5.heap.size := by have := (hM04.trans hM5 (by simp)).size; omega
  generalize w5.heap.size = q3 at *
  have hM06 := hM04.trans hM46 (by simp)
  have f2 := cellM f2 hM46
  have f3 := cellM f3 hM46
  have f4 := cellM f4 hM46
  have hZ6 := hM46.get hZ4 (by simp)
  have hN6 := hM46.get hN4 (by simp)
  clear hZ4 hN4 hM5 hM56 hM04
  refine hold_stop (s' := none) ?_
  refine hold_code okT (rs := [.cell 2 28, .tmp 3]) rfl ?_
  simp (maxSteps := 1000000) (disch := first | omega | (simp only [sizeAlloc, sizeDrew, sizeSet, sizePut] <;> omega) | fail) only [GS, TT_eq, TTl, Nat.reduceAdd, Nat.reduceMul, Nat.reduceSub, Nat.reduceDiv, Nat.reduceMod, Nat.reducePow, Nat.reduceEqDiff, ↓reduceIte, reduceCtorEq, Int.reduceToNat, Int.reduceAdd, Int.reduceSub, Int.reduceMul, f2]
  refine ⟨fok80, rReadNumA_cps t2 (by unfold maxLen; omega) _ _ fun w7 hM7 => .inl ⟨_, rfl, hold_ops okT (rs := [.cell 2 28, .tmp 3]) rfl ?_⟩⟩
  rw [nuV_u]
  have hna := num_get t2
  generalize (numT t2).getD 0 = nA at *
  generalize (numT t2).isSome = nd at *
  have hM07 := hM06.trans hM7 (by simp)
  have f3 := cellM f3 hM7
  have f4 := cellM f4 hM7
  have hZ7 := hM7.get hZ6 (by simp)
  have hN7 := hM7.get hN6 (by simp)
  have hX7 := hM7.get hX6 (by simp)
  clear hZ6 hN6 hX6 hM06
  simp (maxSteps := 1000000) (disch := first | omega | (simp only [sizeAlloc, sizeDrew, sizeSet, sizePut] <;> omega) | fail) only [GS, TT_eq, TTl, Nat.reduceAdd, Nat.reduceMul, Nat.reduceSub, Nat.reduceDiv, Nat.reduceMod, Nat.reducePow, Nat.reduceEqDiff, ↓reduceIte, reduceCtorEq, Int.reduceToNat, Int.reduceAdd, Int.reduceSub, Int.reduceMul]
  refine hold_draw okT (rs := [.cell 2 28, .tmp 3]) rfl [0, 0, 2, 6, 15, 31, 63, 63, 127, 511] [0, 1, 2, 3, 4, 5, 6, 7, 8, 9] (by kernel_rfl) (by kernel_rfl) ?_
  have hM78 := (Mod.refl [] w7).drewN 1
  generalize w7.drewN 1 = w8 at *
  have f3 := cellM f3 hM78
  have f4 := cellM f4 hM78
  have hZ8 := hM78.get hZ7 (by simp)
  have hN8 := hM78.get hN7 (by simp)
  have hX8 := hM78.get hX7 (by simp)
  have hM08 := hM07.trans hM78 (by simp)
  have c8 := fun o => cellOf (o := o) hX8
  have hRM := fun w R h => rReadMembers12_u (xa, xb, xc) t3 (by unfold maxLen; omega) w R h
  unfold txV at hRM
  simp only at hRM
  simp (maxSteps := 1000000) (disch := first | omega | (simp only [sizeAlloc, sizeDrew, sizeSet, sizePut] <;> omega) | fail) only [GS, TT_eq, TTl, Nat.reduceAdd, Nat.reduceMul, Nat.reduceSub, Nat.reduceDiv, Nat.reduceMod, Nat.reducePow, Nat.reduceEqDiff, ↓reduceIte, reduceCtorEq, Int.reduceToNat, Int.reduceAdd, Int.reduceSub, Int.reduceMul, c8, f3]
  refine ⟨fok49, hRM _ _ fun mv w9 hO9 hM9 => .inl ⟨_, rfl, ?_⟩⟩
  have hX9 := hM9.get hX8 (by simp)
  have c9 := fun o => cellOf (o := o) hX9
  have f3' := cellM f3 hM9
  first | refine hold_dops okT (rs := [.cell 2 28, .tmp 3]) rfl ?_ | refine ⟨(by repeat' (first | exact f3' | exact c9 _ | (rw [hX9]; rfl) | apply And.intro)), hold_dops okT (rs := [.cell 2 28, .tmp 3]) rfl ?_⟩
  have f4 := cellM f4 hM9
  have hZ9 := hM9.get hZ8 (by simp)
  have hN9 := hM9.get hN8 (by simp)
  have hM09 := hM08.trans hM9 (by simp)
  have hb8 : n ≤ w8.heap.size := by have := hM08.size; omega
  have hz8 : n < w8.heap.size := (Array.getElem?_eq_some_iff.1 hZ8).1
  obtain ⟨hl6, hd6⟩ := unmb_get xa t3
  have osm := ownsRow_one hO9
  generalize (unmbS xa t3).getD [] = mm at *
  generalize (unmbS xa t3).isSome = md at *
  clear hZ7 hN7 hX7 hM07 hM7 hZ8 hN8 hX8 hM08 hM78 f3 f3' c8 hRM
  simp (maxSteps := 1000000) (disch := first | omega | (simp only [sizeAlloc, sizeDrew, sizeSet, sizePut] <;> omega) | fail) only [GS, TT_eq, TTl, Nat.reduceAdd, Nat.reduceMul, Nat.reduceSub, Nat.reduceDiv, Nat.reduceMod, Nat.reducePow, Nat.reduceEqDiff, ↓reduceIte, reduceCtorEq, Int.reduceToNat, Int.reduceAdd, Int.reduceSub, Int.reduceMul, osm, cellsL_one osm, f4]
  refine ⟨fok79, rPartsA_cps t4 (by unfold maxLen; omega) _ _ (fun h => absurd hc4 h) (fun _ tv w10 hOt hM10 => .inl ⟨_, rfl, hold_stop (s' := some 15) (hold_ops okT (rs := [.cell 2 28, .tmp 3]) rfl ?_)⟩)⟩
  have hpt := parts_ok hc4
  have hlt4 := partsS_len t4
  have ost := ownsRow_one hOt
  generalize partsS t4 = tg at *
  have hX10 := hM10.get hX9 (by simp)
  have c10 := fun o => cellOf (o := o) hX10
  simp (maxSteps := 1000000) (disch := first | omega | (simp only [sizeAlloc, sizeDrew, sizeSet, sizePut] <;> omega) | fail) only [GS, TT_eq, TTl, Nat.reduceAdd, Nat.reduceMul, Nat.reduceSub, Nat.reduceDiv, Nat.reduceMod, Nat.reducePow, Nat.reduceEqDiff, ↓reduceIte, reduceCtorEq, Int.reduceToNat, Int.reduceAdd, Int.reduceSub, Int.reduceMul, c10, osm, cellsL_one osm, ost, cellsL_one ost]
  generalize hW : (((((((w10.alloc (.cells #[.int .i64 0, .int .i64 0, .int .i64 0, .int .i64 0, .slice none 0 0, .slice none 0 0] 28)).setCell ⟨w10.heap.size, 0, none⟩ (.int .i64 xa)).setCell ⟨w10.heap.size, 1, none⟩ (.int .i64 xb)).setCell ⟨w10.heap.size, 2, none⟩ (.int .i64 xc)).setCell ⟨w10.heap.size, 3, none⟩ (.int .i64 ((nA : Nat) : Int))).setCell ⟨w10.heap.size, 4, none⟩ (mv)).setCell ⟨w10.heap.size, 5, none⟩ (tv)) = w11
  obtain ⟨hB, hM1011⟩ := box6 hW
  clear hW
  have hM011 := (hM09.trans hM10 (by simp)).trans hM1011 (by simp)
  have hZ11 := hM1011.get (hM10.get hZ9 (by simp)) (by simp)
  have hN11 := hM1011.get (hM10.get hN9 (by simp)) (by simp)
  have hO11 := ownsRow_mod (ownsRow_mod hO9 hM10 (by simp)) hM1011 (by simp)
  have hOt11 := ownsRow_mod hOt hM1011 (by simp)
  have hb9 : w8.heap.size ≤ w9.heap.size := hM9.size
  generalize w10.heap.size = q at *
  clear hM10 hM1011 hX9 hX10 c9 c10 hZ9 hN9 hM09 hOt hO9
  refine hold_stop (s' := none) ?_
  refine hold_code okT (rs := [.cell 2 28, .tmp 3]) rfl ?_
  have cB := fun o => cellOf (o := o) hB
  have hin : RcpIn w11 (rdR S) mv tv := by
    rw [hrdR]
    exact ⟨⟨by simp only; omega, by simp only; omega⟩, by simp only; omega, fun x hx => by have := hd6 x hx; unfold maxLen; omega, Rd.own hO11, by simp only; omega, fun s hs => by have := (check0 (hpt s hs)).2.2.1; unfold maxLen; omega, Rd.own hOt11⟩
  have hE := rEncode26_cps (rdR S) mv tv w11 hin
  generalize encR (rdR S) = E at *
  rw [hrdR] at hE hD
  unfold rcV rcC at hE
  simp only at hE
  obtain ⟨et, ee⟩ := E
  unfold stV at hE
  simp only at hE
  simp (maxSteps := 1000000) (disch := first | omega | (simp only [sizeAlloc, sizeDrew, sizeSet, sizePut] <;> omega) | fail) only [GS, TT_eq, TTl, Nat.reduceAdd, Nat.reduceMul, Nat.reduceSub, Nat.reduceDiv, Nat.reduceMod, Nat.reducePow, Nat.reduceEqDiff, ↓reduceIte, reduceCtorEq, Int.reduceToNat, Int.reduceAdd, Int.reduceSub, Int.reduceMul, cB]
  refine ⟨fok29, hE _ fun w12 hM12 => .inl ⟨_, rfl, hold_ops okT (rs := [.cell 2 28, .tmp 3]) rfl ?_⟩⟩
  have hZ12 := hM12.get hZ11 (by simp)
  have hN12 := hM12.get hN11 (by simp)
  have hB12 := hM12.get hB (by simp)
  have hM012 := hM011.trans hM12 (by simp)
  have c12 := fun o => cellOf (o := o) hN12
  have x12 := fun o => frozenOf (o := o) hZ12
  have y12 := fun o => cellOf (o := o) hZ12
  have d12 := fun o => cellOf (o := o) hB12
  by_cases he : ee = 0
  rotate_left
  · rw [if_neg (fun h => he (by simp only [Prod.mk.injEq] at h; exact h.2))] at hD
    simp (maxSteps := 1000000) (disch := first | omega | (simp only [sizeAlloc, sizeDrew, sizeSet, sizePut] <;> omega) | fail) only [GS, TT_eq, TTl, Nat.reduceAdd, Nat.reduceMul, Nat.reduceSub, Nat.reduceDiv, Nat.reduceMod, Nat.reducePow, Nat.reduceEqDiff, ↓reduceIte, reduceCtorEq, Int.reduceToNat, Int.reduceAdd, Int.reduceSub, Int.reduceMul, he, c12, x12, y12]
    refine load6 (st6 hZ12) ?_
    exact h0 7 _ hD (modSet6 hM012 (.inr hgeZ))
  by_cases ht : et = S
  rotate_left
  · rw [if_neg (fun h => ht (by simp only [Prod.mk.injEq] at h; exact h.1))] at hD
    simp (maxSteps := 1000000) (disch := first | omega | (simp only [sizeAlloc, sizeDrew, sizeSet, sizePut] <;> omega) | fail) only [GS, TT_eq, TTl, Nat.reduceAdd, Nat.reduceMul, Nat.reduceSub, Nat.reduceDiv, Nat.reduceMod, Nat.reducePow, Nat.reduceEqDiff, ↓reduceIte, reduceCtorEq, Int.reduceToNat, Int.reduceAdd, Int.reduceSub, Int.reduceMul, he, ht, c12, x12, y12]
    refine load6 (st6 hZ12) ?_
    exact h0 7 _ hD (modSet6 hM012 (.inr hgeZ))
  subst he ht
  rw [if_pos rfl] at hD
  simp (maxSteps := 1000000) (disch := first | omega | (simp only [sizeAlloc, sizeDrew, sizeSet, sizePut] <;> omega) | fail) only [GS, TT_eq, TTl, Nat.reduceAdd, Nat.reduceMul, Nat.reduceSub, Nat.reduceDiv, Nat.reduceMod, Nat.reducePow, Nat.reduceEqDiff, ↓reduceIte, reduceCtorEq, Int.reduceToNat, Int.reduceAdd, Int.reduceSub, Int.reduceMul, eq_self, d12, x12, y12, osm, cellsL_one osm, ost, cellsL_one ost]
  refine load6 (st6 hZ12) ?_
  have hO12 := ownsRow_base (base' := n) (ownsRow_mod (S := [n]) (ownsRow_mod hO11 hM12 (by simp)) (modSet6 (F := [n]) (p := n) (x0 := .int .i64 xa) (x1 := .int .i64 xb) (x2 := .int .i64 xc) (x3 := .int .i64 ((nA : Nat) : Int)) (x4 := mv) (x5 := tv) (Mod.refl [n] w12) (.inl (by simp))) (by simp; omega)) hb8
  have hOt12 := ownsRow_base (base' := n) (ownsRow_mod (S := [n]) (ownsRow_mod hOt11 hM12 (by simp)) (modSet6 (F := [n]) (p := n) (x0 := .int .i64 xa) (x1 := .int .i64 xb) (x2 := .int .i64 xc) (x3 := .int .i64 ((nA : Nat) : Int)) (x4 := mv) (x5 := tv) (Mod.refl [n] w12) (.inl (by simp))) (by simp; omega)) (by omega)
  exact h1 ⟨(xa, xb, xc), (nA : Int), mm, tg⟩ mv tv _ hD hO12 hOt12 (modSet6 hM012 (.inr hgeZ))
end Go.Proofs.YtpcilobbohokcaaGreat
