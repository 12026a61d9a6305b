/-
  receipt.Encode (walk). receipt.Encode (walk). receipt: how often a number was met, as a map; what a receipt's term says (plain). wire.ReadTxn, wire.ReadMembers (walks).
-/
import Derived.Test.YtdflchgfhmjhbaaGreatDoorQvZ7
import Derived.Test.YtdflchgfhmjhbaaGreatDoorQvZ6
import Derived.Test.YtdflchgfhmjhbaaGreatDoorQvW1
set_option linter.unusedSimpArgs false
set_option linter.unusedVariables false
namespace Go.Proofs.YtdflchgfhmjhbaaGreatDoor
set_option maxHeartbeats 16000000
set_option maxRecDepth 20000
open Go Go.Wk Go.RowKit
attribute [local irreducible] go Hold
open Go.Lib
def RW : List UInt8 := [114, 101, 99, 101, 105, 112, 116]
def rcL (r : Rcp) : List (List UInt8) := [(dataS RW).1, (txnS r.tx).1, (numS r.aud).1, (mbrsS r.tx.1 r.mbs).1, (madeS (114 :: numL r.tags.length) r.tags).1]
/-- The term of a receipt that may be, if it fits. -/
def encP (r : Rcp) : Option (List UInt8) := if (txnS r.tx).2 = 0 ∧ (numS r.aud).2 = 0 ∧ (mbrsS r.tx.1 r.mbs).2 = 0 ∧ (madeS (114 :: numL r.tags.length) r.tags).2 = 0 ∧ (madeS (114 :: numL 5) (rcL r)).2 = 0 then some (madeS (114 :: numL 5) (rcL r)).1 else none
def encR (r : Rcp) : List UInt8 × Int := if mayR r = true then (match encP r with | some t => (t, 0) | none => ([], 5)) else ([], 2)
theorem may_is {r : Rcp} (h : mayR r = true) : txB r.tx = true ∧ (0 ≤ r.aud ∧ r.aud < 8) ∧ mbB r.tx.1 r.mbs = true ∧ r.tags.length = r.mbs.length ∧ allS r.tags = true := by
  unfold mayR at h
  simp only [Bool.and_eq_true] at h
  exact ⟨h.1.1.1.1, of_decide_eq_true h.1.1.1.2, h.1.1.2, of_decide_eq_true h.1.2, h.2⟩
theorem dRW : dataS RW = ((dataS RW).1, 0) := by decide
theorem eEnc1_cps (r : Rcp) (sm st : Value) (b q : Nat) (w : World) (hr : RcpIn w r sm st) (hm : mayR r = true) (hb : w.heap[b]? = some (.cells (rcC r sm st).toArray 27 (0, 0))) (hq : w.heap[q]? = some (.cells #[.string ⟨#[]⟩] 9 (0, 0))) (R : Ending → World → Prop)
    (h1 : ∀ t w', encP r = some t → w'.heap[q]? = some (.cells #[.string ⟨t.toArray⟩] 9 (0, 0)) → Mod [q] w w' → R (.returned (.tuple #[])) w') (h0 : encP r = none → ∀ w', Mod [] w w' → R (.panicked (rwV 5)) w') :
    Calls Tryz.prog 37 #[.pointer (some ⟨b, 0, none⟩), .pointer (some ⟨q, 0, none⟩)] w R := by
  obtain ⟨ht, ho, hmb, hln, hal⟩ := may_is hm
  obtain ⟨haud, hml, hmd, hmr, htl, htd, htr⟩ := hr
  have hTx := wTxn_cps r.tx
  have hMb := wMembers_cps r.tx sm r.mbs
  generalize hX : encP r = X at h1 h0
  have l1 := txn_len r.tx
  have l2 := numE_len (v := r.aud) ho.1 (by omega)
  have l3 := mbrs_len r.tx.1 r.mbs
  have l4 := made_len (114 :: numL r.tags.length) r.tags
  have l0 := dataS_len RW
  have htg : ∀ s ∈ r.tags, s.length ≤ 1000000 := fun s hs => by
    unfold allS at hal
    have := of_decide_eq_true (List.all_eq_true.1 hal s hs)
    have := (check0 this).2.2.1
    omega
  unfold numE at l2
  unfold encP rcL at hX
  obtain ⟨⟨x1, x2, x3⟩, aud, mbs, tags⟩ := r
  unfold txV at hTx hMb
  unfold rcC at hb
  simp only at hX hb ho haud hml hmd hmr htl htd htr hTx hMb l1 l2 l3 l4 htg
  clear hm ht hmb hal
  have hNm := tNum_cps aud haud.1 haud.2
  have hRt := fun w R h1 h2 h3 hR => tRow_cps st tags w R h1 h2 h3 hR
  have hDt := tData_cps RW (by unfold maxLen; decide)
  have hR5 := fun sv w R h1 h3 hR => tRow_cps sv [(dataS RW).1, (txnS (x1, x2, x3)).1, (numS aud).1, (mbrsS x1 mbs).1, (madeS (114 :: numL tags.length) tags).1] w R (by simp) h1 h3 hR
  rw [dRW] at hDt
  generalize (dataS RW).1 = t0 at *
  generalize txnS (x1, x2, x3) = P1 at *
  generalize numS aud = P2 at *
  generalize mbrsS x1 mbs = P3 at *
  generalize madeS (114 :: numL tags.length) tags = P4 at *
  obtain ⟨t1, e1⟩ := P1
  obtain ⟨t2, e2⟩ := P2
  obtain ⟨t3, e3⟩ := P3
  obtain ⟨t4, e4⟩ := P4
  simp only at hX l1 l2 l3 l4 hR5 hTx hNm hMb hRt
  unfold stV at hDt hTx hNm hMb hRt hR5
  simp only at hDt hTx hNm hMb hRt
  rw [show ([t0, t1, t2, t3, t4] : List (List UInt8)).length = 5 from rfl] at hR5
  generalize madeS (114 :: numL 5) [t0, t1, t2, t3, t4] = P5 at *
  obtain ⟨t5, e5⟩ := P5
  simp only at hX hR5
  unfold RW at hDt
  refine calls_go 4000 okT Tryz.func37 rfl (rs := []) rfl Tryz.ntmps37 (args := [.pointer (some ⟨b, 0, none⟩), .pointer (some ⟨q, 0, none⟩)]) ?_
  simp (maxSteps := 1000000) (disch := first | omega | (simp only [sizeAlloc, sizeDrew, sizeSet, sizePut] <;> omega) | fail) only [GS, TT_eq, TTl, Nat.reduceAdd, Nat.reduceMul, Nat.reduceSub, Nat.reduceDiv, Nat.reduceMod, Nat.reducePow, Nat.reduceEqDiff, ↓reduceIte, reduceCtorEq, Int.reduceToNat, Int.reduceAdd, Int.reduceSub, Int.reduceMul]
  refine hold_draw okT (rs := []) rfl [0, 1, 1, 7, 0, 16, 63, 127, 127, 511, 0, 1024, 4095, 8191, 8191, 32767, 0, 65536, 0, 262144, 1048575, 2097151, 2097151, 8388607, 0, 16777216, 67108863, 134217727, 134217727, 536870911, 1073741823, 2147483647, 4294967295, 4294967295, 17179869183, 34359738367] [4, 5, 10, 11, 16, 17, 18, 19, 24, 25, 0, 1, 2, 3, 6, 7, 8, 9, 12, 13, 14, 15, 20, 21, 22, 23, 26, 27, 28, 29, 30, 31, 32, 33, 34, 35] (by kernel_rfl) (by kernel_rfl) ?_
  have hb1 : (w.drewN 1).heap[b]? = _ := hb
  have hq1 : (w.drewN 1).heap[q]? = _ := hq
  have hM1 := (Mod.refl [] w).drewN 1
  generalize w.drewN 1 = w1 at *
  have c1 := fun o => cellOf (o := o) hb1
  have hag : ∀ w' : World, Mod [] w1 w' → aggO (consO (w'.cell? ⟨b, 0, none⟩) (consO (w'.cell? ⟨b, 1, none⟩) (consO (w'.cell? ⟨b, 2, none⟩) (some [])))) = some (.agg #[.int .i64 x1, .int .i64 x2, .int .i64 x3]) := by
    intro w' hm
    rw [cellM (show w1.cell? ⟨b, 0, none⟩ = some (.int .i64 x1) from c1 0) hm, cellM (show w1.cell? ⟨b, 1, none⟩ = some (.int .i64 x2) from c1 1) hm, cellM (show w1.cell? ⟨b, 2, none⟩ = some (.int .i64 x3) from c1 2) hm]
    rfl
  have d3 : w1.cell? ⟨b, 3, none⟩ = some (.int .i64 aud) := c1 3
  have d4 : w1.cell? ⟨b, 4, none⟩ = some sm := c1 4
  have d5 : w1.cell? ⟨b, 5, none⟩ = some st := c1 5
  simp (maxSteps := 1000000) (disch := first | omega | (simp only [sizeAlloc, sizeDrew, sizeSet, sizePut] <;> omega) | fail) only [GS, TT_eq, TTl, Nat.reduceAdd, Nat.reduceMul, Nat.reduceSub, Nat.reduceDiv, Nat.reduceMod, Nat.reducePow, Nat.reduceEqDiff, ↓reduceIte, reduceCtorEq, Int.reduceToNat, Int.reduceAdd, Int.reduceSub, Int.reduceMul, c1]
  refine ⟨fok40, hDt _ _ fun w2 hM2 => .inl ⟨_, rfl, ?_⟩⟩
  refine ⟨(by repeat' (first | exact hag _ hM2 | exact cellM d3 hM2 | exact cellM d4 hM2 | exact cellM d5 hM2 | apply And.intro)), hold_dops okT (rs := []) rfl ?_⟩
  simp (maxSteps := 1000000) (disch := first | omega | (simp only [sizeAlloc, sizeDrew, sizeSet, sizePut] <;> omega) | fail) only [GS, TT_eq, TTl, Nat.reduceAdd, Nat.reduceMul, Nat.reduceSub, Nat.reduceDiv, Nat.reduceMod, Nat.reducePow, Nat.reduceEqDiff, ↓reduceIte, reduceCtorEq, Int.reduceToNat, Int.reduceAdd, Int.reduceSub, Int.reduceMul]
  refine ⟨fok38, eMade_cps t0 0 _ _ (fun _ => .inl ⟨_, rfl, ?_⟩) (fun h => absurd rfl h)⟩
  refine ⟨(by repeat' (first | exact hag _ hM2 | exact cellM d3 hM2 | exact cellM d4 hM2 | exact cellM d5 hM2 | apply And.intro)), hold_dops okT (rs := []) rfl ?_⟩
  simp (maxSteps := 1000000) (disch := first | omega | (simp only [sizeAlloc, sizeDrew, sizeSet, sizePut] <;> omega) | fail) only [GS, TT_eq, TTl, Nat.reduceAdd, Nat.reduceMul, Nat.reduceSub, Nat.reduceDiv, Nat.reduceMod, Nat.reducePow, Nat.reduceEqDiff, ↓reduceIte, reduceCtorEq, Int.reduceToNat, Int.reduceAdd, Int.reduceSub, Int.reduceMul]
  refine ⟨fok41, hTx _ _ fun w3 hQ => .inl ⟨_, rfl, ?_⟩⟩
  have hM3 := hM2.trans hQ (by simp)
  clear hQ
  first | refine ⟨(by repeat' (first | exact hag _ hM3 | exact cellM d3 hM3 | exact cellM d4 hM3 | exact cellM d5 hM3 | apply And.intro)), hold_dops okT (rs := []) rfl ?_⟩ | refine hold_dops okT (rs := []) rfl ?_
  by_cases he : e1 = 0
  rotate_left
  · rw [if_neg (fun h => he (by simp [h]))] at hX
    simp (maxSteps := 1000000) (disch := first | omega | (simp only [sizeAlloc, sizeDrew, sizeSet, sizePut] <;> omega) | fail) only [GS, TT_eq, TTl, Nat.reduceAdd, Nat.reduceMul, Nat.reduceSub, Nat.reduceDiv, Nat.reduceMod, Nat.reducePow, Nat.reduceEqDiff, ↓reduceIte, reduceCtorEq, Int.reduceToNat, Int.reduceAdd, Int.reduceSub, Int.reduceMul]
    refine ⟨fok38, eMade_cps t1 e1 _ _ (fun h => absurd h he) (fun _ => .inr ⟨_, rfl, fun fs' => hold_ex okT (rs := []) rfl ?_⟩)⟩
    simp (maxSteps := 1000000) (disch := first | omega | (simp only [sizeAlloc, sizeDrew, sizeSet, sizePut] <;> omega) | fail) only [GS, TT_eq, TTl, Nat.reduceAdd, Nat.reduceMul, Nat.reduceSub, Nat.reduceDiv, Nat.reduceMod, Nat.reducePow, Nat.reduceEqDiff, ↓reduceIte, reduceCtorEq, Int.reduceToNat, Int.reduceAdd, Int.reduceSub, Int.reduceMul]
    exact h0 hX.symm _ (hM1.trans hM3 (by simp))
  subst he
  simp (maxSteps := 1000000) (disch := first | omega | (simp only [sizeAlloc, sizeDrew, sizeSet, sizePut] <;> omega) | fail) only [GS, TT_eq, TTl, Nat.reduceAdd, Nat.reduceMul, Nat.reduceSub, Nat.reduceDiv, Nat.reduceMod, Nat.reducePow, Nat.reduceEqDiff, ↓reduceIte, reduceCtorEq, Int.reduceToNat, Int.reduceAdd, Int.reduceSub, Int.reduceMul]
  refine ⟨fok38, eMade_cps t1 0 _ _ (fun _ => .inl ⟨_, rfl, ?_⟩) (fun h => absurd rfl h)⟩
  first | refine ⟨(by repeat' (first | exact hag _ hM3 | exact cellM d3 hM3 | exact cellM d4 hM3 | exact cellM d5 hM3 | apply And.intro)), hold_dops okT (rs := []) rfl ?_⟩ | refine hold_dops okT (rs := []) rfl ?_
  simp (maxSteps := 1000000) (disch := first | omega | (simp only [sizeAlloc, sizeDrew, sizeSet, sizePut] <;> omega) | fail) only [GS, TT_eq, TTl, Nat.reduceAdd, Nat.reduceMul, Nat.reduceSub, Nat.reduceDiv, Nat.reduceMod, Nat.reducePow, Nat.reduceEqDiff, ↓reduceIte, reduceCtorEq, Int.reduceToNat, Int.reduceAdd, Int.reduceSub, Int.reduceMul]
  refine ⟨fok42, hNm _ _ fun w4 hQ => .inl ⟨_, rfl, ?_⟩⟩
  have hM4 := hM3.trans hQ (by simp)
  clear hQ
  first | refine ⟨(by repeat' (first | exact hag _ hM4 | exact cellM d3 hM4 | exact cellM d4 hM4 | exact cellM d5 hM4 | apply And.intro)), hold_dops okT (rs := []) rfl ?_⟩ | refine hold_dops okT (rs := []) rfl ?_
  by_cases he : e2 = 0
  rotate_left
  · rw [if_neg (fun h => he (by simp [h]))] at hX
    simp (maxSteps := 1000000) (disch := first | omega | (simp only [sizeAlloc, sizeDrew, sizeSet, sizePut] <;> omega) | fail) only [GS, TT_eq, TTl, Nat.reduceAdd, Nat.reduceMul, Nat.reduceSub, Nat.reduceDiv, Nat.reduceMod, Nat.reducePow, Nat.reduceEqDiff, ↓reduceIte, reduceCtorEq, Int.reduceToNat, Int.reduceAdd, Int.reduceSub, Int.reduceMul]
    refine ⟨fok38, eMade_cps t2 e2 _ _ (fun h => absurd h he) (fun _ => .inr ⟨_, rfl, fun fs' => hold_ex okT (rs := []) rfl ?_⟩)⟩
    simp (maxSteps := 1000000) (disch := first | omega | (simp only [sizeAlloc, sizeDrew, sizeSet, sizePut] <;> omega) | fail) only [GS, TT_eq, TTl, Nat.reduceAdd, Nat.reduceMul, Nat.reduceSub, Nat.reduceDiv, Nat.reduceMod, Nat.reducePow, Nat.reduceEqDiff, ↓reduceIte, reduceCtorEq, Int.reduceToNat, Int.reduceAdd, Int.reduceSub, Int.reduceMul]
    exact h0 hX.symm _ (hM1.trans hM4 (by simp))
  subst he
  simp (maxSteps := 1000000) (disch := first | omega | (simp only [sizeAlloc, sizeDrew, sizeSet, sizePut] <;> omega) | fail) only [GS, TT_eq, TTl, Nat.reduceAdd, Nat.reduceMul, Nat.reduceSub, Nat.reduceDiv, Nat.reduceMod, Nat.reducePow, Nat.reduceEqDiff, ↓reduceIte, reduceCtorEq, Int.reduceToNat, Int.reduceAdd, Int.reduceSub, Int.reduceMul]
  refine ⟨fok38, eMade_cps t2 0 _ _ (fun _ => .inl ⟨_, rfl, ?_⟩) (fun h => absurd rfl h)⟩
  first | refine ⟨(by repeat' (first | exact hag _ hM4 | exact cellM d3 hM4 | exact cellM d4 hM4 | exact cellM d5 hM4 | apply And.intro)), hold_dops okT (rs := []) rfl ?_⟩ | refine hold_dops okT (rs := []) rfl ?_
  simp (maxSteps := 1000000) (disch := first | omega | (simp only [sizeAlloc, sizeDrew, sizeSet, sizePut] <;> omega) | fail) only [GS, TT_eq, TTl, Nat.reduceAdd, Nat.reduceMul, Nat.reduceSub, Nat.reduceDiv, Nat.reduceMod, Nat.reducePow, Nat.reduceEqDiff, ↓reduceIte, reduceCtorEq, Int.reduceToNat, Int.reduceAdd, Int.reduceSub, Int.reduceMul]
  refine ⟨fok43, hMb _ _ hml hmd (hmr.mod (hM1.trans hM4 (by simp)) (by simp)) fun w5 hQ => .inl ⟨_, rfl, ?_⟩⟩
  have hM5 := hM4.trans hQ (by simp)
  clear hQ
  first | refine ⟨(by repeat' (first | exact hag _ hM5 | exact cellM d3 hM5 | exact cellM d4 hM5 | exact cellM d5 hM5 | apply And.intro)), hold_dops okT (rs := []) rfl ?_⟩ | refine hold_dops okT (rs := []) rfl ?_
  by_cases he : e3 = 0
  rotate_left
  · rw [if_neg (fun h => he (by simp [h]))] at hX
    simp (maxSteps := 1000000) (disch := first | omega | (simp only [sizeAlloc, sizeDrew, sizeSet, sizePut] <;> omega) | fail) only [GS, TT_eq, TTl, Nat.reduceAdd, Nat.reduceMul, Nat.reduceSub, Nat.reduceDiv, Nat.reduceMod, Nat.reducePow, Nat.reduceEqDiff, ↓reduceIte, reduceCtorEq, Int.reduceToNat, Int.reduceAdd, Int.reduceSub, Int.reduceMul]
    refine ⟨fok38, eMade_cps t3 e3 _ _ (fun h => absurd h he) (fun _ => .inr ⟨_, rfl, fun fs' => hold_ex okT (rs := []) rfl ?_⟩)⟩
    simp (maxSteps := 1000000) (disch := first | omega | (simp only [sizeAlloc, sizeDrew, sizeSet, sizePut] <;> omega) | fail) only [GS, TT_eq, TTl, Nat.reduceAdd, Nat.reduceMul, Nat.reduceSub, Nat.reduceDiv, Nat.reduceMod, Nat.reducePow, Nat.reduceEqDiff, ↓reduceIte, reduceCtorEq, Int.reduceToNat, Int.reduceAdd, Int.reduceSub, Int.reduceMul]
    exact h0 hX.symm _ (hM1.trans hM5 (by simp))
  subst he
  simp (maxSteps := 1000000) (disch := first | omega | (simp only [sizeAlloc, sizeDrew, sizeSet, sizePut] <;> omega) | fail) only [GS, TT_eq, TTl, Nat.reduceAdd, Nat.reduceMul, Nat.reduceSub, Nat.reduceDiv, Nat.reduceMod, Nat.reducePow, Nat.reduceEqDiff, ↓reduceIte, reduceCtorEq, Int.reduceToNat, Int.reduceAdd, Int.reduceSub, Int.reduceMul]
  refine ⟨fok38, eMade_cps t3 0 _ _ (fun _ => .inl ⟨_, rfl, ?_⟩) (fun h => absurd rfl h)⟩
  first | refine ⟨(by repeat' (first | exact hag _ hM5 | exact cellM d3 hM5 | exact cellM d4 hM5 | exact cellM d5 hM5 | apply And.intro)), hold_dops okT (rs := []) rfl ?_⟩ | refine hold_dops okT (rs := []) rfl ?_
  simp (maxSteps := 1000000) (disch := first | omega | (simp only [sizeAlloc, sizeDrew, sizeSet, sizePut] <;> omega) | fail) only [GS, TT_eq, TTl, Nat.reduceAdd, Nat.reduceMul, Nat.reduceSub, Nat.reduceDiv, Nat.reduceMod, Nat.reducePow, Nat.reduceEqDiff, ↓reduceIte, reduceCtorEq, Int.reduceToNat, Int.reduceAdd, Int.reduceSub, Int.reduceMul]
  refine ⟨fok39, hRt _ _ (by omega) htg (htr.mod (hM1.trans hM5 (by simp)) (by simp)) fun w6 hQ => .inl ⟨_, rfl, ?_⟩⟩
  have hM6 := hM5.trans hQ (by simp)
  clear hQ
  first | refine ⟨(by repeat' (first | exact hag _ hM6 | exact cellM d3 hM6 | exact cellM d4 hM6 | exact cellM d5 hM6 | apply And.intro)), hold_dops okT (rs := []) rfl ?_⟩ | refine hold_dops okT (rs := []) rfl ?_
  by_cases he : e4 = 0
  rotate_left
  · rw [if_neg (fun h => he (by simp [h]))] at hX
    simp (maxSteps := 1000000) (disch := first | omega | (simp only [sizeAlloc, sizeDrew, sizeSet, sizePut] <;> omega) | fail) only [GS, TT_eq, TTl, Nat.reduceAdd, Nat.reduceMul, Nat.reduceSub, Nat.reduceDiv, Nat.reduceMod, Nat.reducePow, Nat.reduceEqDiff, ↓reduceIte, reduceCtorEq, Int.reduceToNat, Int.reduceAdd, Int.reduceSub, Int.reduceMul]
    refine ⟨fok38, eMade_cps t4 e4 _ _ (fun h => absurd h he) (fun _ => .inr ⟨_, rfl, fun fs' => hold_ex okT (rs := []) rfl ?_⟩)⟩
    simp (maxSteps := 1000000) (disch := first | omega | (simp only [sizeAlloc, sizeDrew, sizeSet, sizePut] <;> omega) | fail) only [GS, TT_eq, TTl, Nat.reduceAdd, Nat.reduceMul, Nat.reduceSub, Nat.reduceDiv, Nat.reduceMod, Nat.reducePow, Nat.reduceEqDiff, ↓reduceIte, reduceCtorEq, Int.reduceToNat, Int.reduceAdd, Int.reduceSub, Int.reduceMul]
    exact h0 hX.symm _ (hM1.trans hM6 (by simp))
  subst he
  simp (maxSteps := 1000000) (disch := first | omega | (simp only [sizeAlloc, sizeDrew, sizeSet, sizePut] <;> omega) | fail) only [GS, TT_eq, TTl, Nat.reduceAdd, Nat.reduceMul, Nat.reduceSub, Nat.reduceDiv, Nat.reduceMod, Nat.reducePow, Nat.reduceEqDiff, ↓reduceIte, reduceCtorEq, Int.reduceToNat, Int.reduceAdd, Int.reduceSub, Int.reduceMul]
  refine ⟨fok38, eMade_cps t4 0 _ _ (fun _ => .inl ⟨_, rfl, ?_⟩) (fun h => absurd rfl h)⟩
  first | refine ⟨(by repeat' (first | exact hag _ hM6 | exact cellM d3 hM6 | exact cellM d4 hM6 | exact cellM d5 hM6 | apply And.intro)), hold_dops okT (rs := []) rfl ?_⟩ | refine hold_dops okT (rs := []) rfl ?_
  simp (maxSteps := 1000000) (disch := first | omega | (simp only [sizeAlloc, sizeDrew, sizeSet, sizePut] <;> omega) | fail) only [GS, TT_eq, TTl, Nat.reduceAdd, Nat.reduceMul, Nat.reduceSub, Nat.reduceDiv, Nat.reduceMod, Nat.reducePow, Nat.reduceEqDiff, ↓reduceIte, reduceCtorEq, Int.reduceToNat, Int.reduceAdd, Int.reduceSub, Int.reduceMul]
  have hlit := Rd.lit (w := w6) (size := 1) (n := 5) (e := 9) (xs := [t0, t1, t2, t3, t4].map strV) rfl
  refine ⟨fok39, hR5 _ _ _ (by intro s hs; simp only [List.mem_cons, List.not_mem_nil, or_false] at hs; rcases hs with rfl | rfl | rfl | rfl | rfl <;> omega) hlit fun w7 hQ => .inl ⟨_, rfl, ?_⟩⟩
  have hM7 := (hM6.alloc _).trans hQ (by simp)
  clear hQ hlit
  first | refine ⟨(by repeat' (first | exact hag _ hM7 | exact cellM d3 hM7 | exact cellM d4 hM7 | exact cellM d5 hM7 | apply And.intro)), hold_dops okT (rs := []) rfl ?_⟩ | refine hold_dops okT (rs := []) rfl ?_
  by_cases he : e5 = 0
  rotate_left
  · rw [if_neg (fun h => he (by simp [h]))] at hX
    simp (maxSteps := 1000000) (disch := first | omega | (simp only [sizeAlloc, sizeDrew, sizeSet, sizePut] <;> omega) | fail) only [GS, TT_eq, TTl, Nat.reduceAdd, Nat.reduceMul, Nat.reduceSub, Nat.reduceDiv, Nat.reduceMod, Nat.reducePow, Nat.reduceEqDiff, ↓reduceIte, reduceCtorEq, Int.reduceToNat, Int.reduceAdd, Int.reduceSub, Int.reduceMul]
    refine ⟨fok38, eMade_cps t5 e5 _ _ (fun h => absurd h he) (fun _ => .inr ⟨_, rfl, fun fs' => hold_ex okT (rs := []) rfl ?_⟩)⟩
    simp (maxSteps := 1000000) (disch := first | omega | (simp only [sizeAlloc, sizeDrew, sizeSet, sizePut] <;> omega) | fail) only [GS, TT_eq, TTl, Nat.reduceAdd, Nat.reduceMul, Nat.reduceSub, Nat.reduceDiv, Nat.reduceMod, Nat.reducePow, Nat.reduceEqDiff, ↓reduceIte, reduceCtorEq, Int.reduceToNat, Int.reduceAdd, Int.reduceSub, Int.reduceMul]
    exact h0 hX.symm _ (hM1.trans hM7 (by simp))
  subst he
  rw [if_pos (by simp)] at hX
  simp (maxSteps := 1000000) (disch := first | omega | (simp only [sizeAlloc, sizeDrew, sizeSet, sizePut] <;> omega) | fail) only [GS, TT_eq, TTl, Nat.reduceAdd, Nat.reduceMul, Nat.reduceSub, Nat.reduceDiv, Nat.reduceMod, Nat.reducePow, Nat.reduceEqDiff, ↓reduceIte, reduceCtorEq, Int.reduceToNat, Int.reduceAdd, Int.reduceSub, Int.reduceMul]
  refine ⟨fok38, eMade_cps t5 0 _ _ (fun _ => .inl ⟨_, rfl, ?_⟩) (fun h => absurd rfl h)⟩
  first | refine ⟨(by repeat' (first | exact hag _ hM7 | exact cellM d3 hM7 | exact cellM d4 hM7 | exact cellM d5 hM7 | apply And.intro)), hold_dops okT (rs := []) rfl ?_⟩ | refine hold_dops okT (rs := []) rfl ?_
  have hq7 := hM7.get hq1 (by simp)
  have c7 := fun o => cellOf (o := o) hq7
  have x7 := fun o => frozenOf (o := o) hq7
  simp (maxSteps := 1000000) (disch := first | omega | (simp only [sizeAlloc, sizeDrew, sizeSet, sizePut] <;> omega) | fail) only [GS, TT_eq, TTl, Nat.reduceAdd, Nat.reduceMul, Nat.reduceSub, Nat.reduceDiv, Nat.reduceMod, Nat.reducePow, Nat.reduceEqDiff, ↓reduceIte, reduceCtorEq, Int.reduceToNat, Int.reduceAdd, Int.reduceSub, Int.reduceMul, c7, x7]
  exact h1 t5 _ hX.symm (by rw [heapSet hq7]; rfl) (((hM1.trans hM7 (by simp)).mono (by simp)).set (p := ⟨q, 0, none⟩) (.inl (by simp)) _)
theorem eEncode_cps (r : Rcp) (sm st : Value) (w : World) (hr : RcpIn w r sm st) (R : Ending → World → Prop) (hR : ∀ w', Mod [] w w' → R (.returned (stV (encR r))) w') : Calls Tryz.prog 12 #[rcV r sm st] w R := by
  have hCk := eCheck_cps r sm st
  have hE1 := eEnc1_cps r sm st
  have hEncR : ∀ P, encR r = P → ∀ w', Mod [] w w' → R (.returned (stV P)) w' := fun P h w' hM => by rw [← h]; exact hR w' hM
  clear hR
  have hMayN : mayR r = false → encR r = ([], 2) := fun h => by unfold encR; rw [h]; rfl
  have hMayS : mayR r = true → ∀ t, encP r = some t → encR r = (t, 0) := fun h t ht => by unfold encR; rw [h, ht]; rfl
  have hMay0 : mayR r = true → encP r = none → encR r = ([], 5) := fun h ht => by unfold encR; rw [h, ht]; rfl
  generalize mayR r = M at *
  generalize encP r = EP at *
  generalize encR r = ER at *
  unfold rcV rcC at hCk ⊢
  unfold rcC at hE1
  have hrW : ∀ w', Mod [] w w' → RcpIn w' r sm st := fun w' hM => hr.mod hM
  have osm : sm.oneCell' = true := by obtain ⟨a, c, e⟩ := hr.mrd.slice; rw [e]; rfl
  have ost : st.oneCell' = true := by obtain ⟨a, c, e⟩ := hr.trd.slice; rw [e]; rfl
  clear hr
  obtain ⟨⟨x1, x2, x3⟩, aud, mbs, tags⟩ := r
  simp only at hCk hE1 ⊢
  refine calls_go 4000 okT Tryz.func12 rfl (rs := [.cell 2 9, .tmp 3]) rfl Tryz.ntmps12 (args := [.agg #[.int .i64 x1, .int .i64 x2, .int .i64 x3, .int .i64 aud, sm, st]]) ?_
  simp (maxSteps := 1000000) (disch := first | omega | (simp only [sizeAlloc, sizeDrew, sizeSet, sizePut] <;> omega) | fail) only [GS, TT_eq, TTl, Nat.reduceAdd, Nat.reduceMul, Nat.reduceSub, Nat.reduceDiv, Nat.reduceMod, Nat.reducePow, Nat.reduceEqDiff, ↓reduceIte, reduceCtorEq, Int.reduceToNat, Int.reduceAdd, Int.reduceSub, Int.reduceMul, osm, ost, cellsL_one osm, cellsL_one ost]
  have hb := heapAlloc (o' := .cells #[.string ⟨#[]⟩] 9) (heapNew (w := w) (o := .cells #[.int .i64 x1, .int .i64 x2, .int .i64 x3, .int .i64 aud, sm, st] 27))
  have hq := heapNew (w := w.alloc (.cells #[.int .i64 x1, .int .i64 x2, .int .i64 x3, .int .i64 aud, sm, st] 27)) (o := .cells #[.string ⟨#[]⟩] 9)
  have hM0 := ((Mod.refl [] w).alloc (.cells #[.int .i64 x1, .int .i64 x2, .int .i64 x3, .int .i64 aud, sm, st] 27)).alloc (.cells #[.string ⟨#[]⟩] 9)
  rw [sizeAlloc] at hq
  generalize (w.alloc (.cells #[.int .i64 x1, .int .i64 x2, .int .i64 x3, .int .i64 aud, sm, st] 27)).alloc (.cells #[.string ⟨#[]⟩] 9) = w1 at hb hq hM0 ⊢
  generalize hn : w.heap.size = n at *
  have hge : w.heap.size ≤ n + 1 := by omega
  refine ⟨fok35, hCk _ (hrW _ hM0) _ fun w2 hM2 => .inl ⟨_, rfl, hold_ops okT (rs := [.cell 2 9, .tmp 3]) rfl ?_⟩⟩
  have hb2 := hM2.get hb (by simp)
  have hq2 := hM2.get hq (by simp)
  have hM02 := hM0.trans hM2 (by simp)
  have c2 := fun o => cellOf (o := o) hq2
  have x2' := fun o => frozenOf (o := o) hq2
  cases M
  · simp only [Bool.false_eq_true, if_false]
    simp (maxSteps := 1000000) (disch := first | omega | (simp only [sizeAlloc, sizeDrew, sizeSet, sizePut] <;> omega) | fail) only [GS, TT_eq, TTl, Nat.reduceAdd, Nat.reduceMul, Nat.reduceSub, Nat.reduceDiv, Nat.reduceMod, Nat.reducePow, Nat.reduceEqDiff, ↓reduceIte, reduceCtorEq, Int.reduceToNat, Int.reduceAdd, Int.reduceSub, Int.reduceMul, c2, x2', loadW]
    have hq3 : (w2.setCell ⟨n + 1, 0, none⟩ (.string ⟨#[]⟩)).heap[n + 1]? = some (.cells #[.string ⟨#[]⟩] 9 (0, 0)) := by rw [heapSet hq2]; rfl
    have c3 := fun o => cellOf (o := o) hq3
    have := hEncR _ (hMayN rfl) (w2.setCell ⟨n + 1, 0, none⟩ (.string ⟨#[]⟩)) (hM02.set (p := ⟨n + 1, 0, none⟩) (.inr hge) _)
    unfold stV at this
    exact ⟨_, rfl, this⟩
  · simp only [if_true]
    simp (maxSteps := 1000000) (disch := first | omega | (simp only [sizeAlloc, sizeDrew, sizeSet, sizePut] <;> omega) | fail) only [GS, TT_eq, TTl, Nat.reduceAdd, Nat.reduceMul, Nat.reduceSub, Nat.reduceDiv, Nat.reduceMod, Nat.reducePow, Nat.reduceEqDiff, ↓reduceIte, reduceCtorEq, Int.reduceToNat, Int.reduceAdd, Int.reduceSub, Int.reduceMul]
    have hql := (Array.getElem?_eq_some_iff.1 hq2).1
    have hb3 := heapAlloc (o' := .cells #[.int .i64 0] 29) hb2
    have hq3 := heapAlloc (o' := .cells #[.int .i64 0] 29) hq2
    have hz3 := heapNew (w := w2) (o := .cells #[.int .i64 0] 29)
    have hM3 := (Mod.refl [] w2).alloc (.cells #[.int .i64 0] 29)
    refine ⟨fok36, eTry_cps 37 #[.pointer (some ⟨n, 0, none⟩), .pointer (some ⟨n + 1, 0, none⟩)] fok37 w2 _ (fun w' => ∃ t, EP = some t ∧ w'.heap[n + 1]? = some (.cells #[.string ⟨t.toArray⟩] 9 (0, 0)) ∧ Mod [] w w') (fun c w' => c = 5 ∧ EP = none ∧ w'.heap[n + 1]? = some (.cells #[.string ⟨#[]⟩] 9 (0, 0)) ∧ Mod [] w w') ?_ ?_ ?_⟩
    · refine hE1 n (n + 1) _ (hrW _ (hM02.trans hM3 (by simp))) rfl hb3 hq3 _ ?_ ?_
      · intro t w' hx hh hM
        refine ⟨.inl ⟨rfl, t, hx, hh, (hM02.trans hM3 (by simp)).trans hM (fun y hy => .inr (by simp at hy; omega))⟩, hM.get hz3 (by simp; omega), ?_⟩
        have := hM.size
        rw [sizeAlloc] at this
        omega
      · intro hx w' hM
        refine ⟨.inr ⟨5, rfl, rfl, hx, hM.get hq3 (by simp), hM02.trans (hM3.trans hM (by simp)) (by simp)⟩, hM.get hz3 (by simp), ?_⟩
        have := hM.size
        rw [sizeAlloc] at this
        omega
    · rintro w4 w5 ⟨t, hx, hh, hM4⟩ hM45
      refine .inl ⟨_, rfl, hold_ops okT (rs := [.cell 2 9, .tmp 3]) rfl ?_⟩
      have hh5 := hM45.get hh (by simp; omega)
      have hs4 := hM02.size
      have hM05 : Mod [] w w5 := hM4.trans hM45 (fun y hy => .inr (by simp at hy; omega))
      have c5 := fun o => cellOf (o := o) hh5
      have x5 := fun o => frozenOf (o := o) hh5
      simp (maxSteps := 1000000) (disch := first | omega | (simp only [sizeAlloc, sizeDrew, sizeSet, sizePut] <;> omega) | fail) only [GS, TT_eq, TTl, Nat.reduceAdd, Nat.reduceMul, Nat.reduceSub, Nat.reduceDiv, Nat.reduceMod, Nat.reducePow, Nat.reduceEqDiff, ↓reduceIte, reduceCtorEq, Int.reduceToNat, Int.reduceAdd, Int.reduceSub, Int.reduceMul, c5, x5, loadW]
      have hq6 : (w5.setCell ⟨n + 1, 0, none⟩ (.string ⟨t.toArray⟩)).heap[n + 1]? = some (.cells #[.string ⟨t.toArray⟩] 9 (0, 0)) := by rw [heapSet hh5]; rfl
      have c6 := fun o => cellOf (o := o) hq6
      have := hEncR _ (hMayS rfl t hx) (w5.setCell ⟨n + 1, 0, none⟩ (.string ⟨t.toArray⟩)) (hM05.set (p := ⟨n + 1, 0, none⟩) (.inr hge) _)
      unfold stV at this
      exact ⟨_, rfl, this⟩
    · rintro c w4 w5 ⟨rfl, hx, hh, hM4⟩ hM45
      refine .inl ⟨_, rfl, hold_ops okT (rs := [.cell 2 9, .tmp 3]) rfl ?_⟩
      have hh5 := hM45.get hh (by simp; omega)
      have hs4 := hM02.size
      have hM05 : Mod [] w w5 := hM4.trans hM45 (fun y hy => .inr (by simp at hy; omega))
      have c5 := fun o => cellOf (o := o) hh5
      have x5 := fun o => frozenOf (o := o) hh5
      simp (maxSteps := 1000000) (disch := first | omega | (simp only [sizeAlloc, sizeDrew, sizeSet, sizePut] <;> omega) | fail) only [GS, TT_eq, TTl, Nat.reduceAdd, Nat.reduceMul, Nat.reduceSub, Nat.reduceDiv, Nat.reduceMod, Nat.reducePow, Nat.reduceEqDiff, ↓reduceIte, reduceCtorEq, Int.reduceToNat, Int.reduceAdd, Int.reduceSub, Int.reduceMul, c5, x5, loadW]
      have hq6 : (w5.setCell ⟨n + 1, 0, none⟩ (.string ⟨#[]⟩)).heap[n + 1]? = some (.cells #[.string ⟨#[]⟩] 9 (0, 0)) := by rw [heapSet hh5]; rfl
      have c6 := fun o => cellOf (o := o) hq6
      have := hEncR _ (hMay0 rfl hx) (w5.setCell ⟨n + 1, 0, none⟩ (.string ⟨#[]⟩)) (hM05.set (p := ⟨n + 1, 0, none⟩) (.inr hge) _)
      unfold stV at this
      exact ⟨_, rfl, this⟩
def kV (v : Nat) : Value := .int .i64 (v : Nat)
theorem eqK (a b : Nat) : eqKey (kV a) (kV b) = decide (a = b) := by
  show decide ((a : Int) = (b : Int)) = _
  rw [decide_eq_decide]
  omega
/-- A map of how often each number was met. -/
structure Cnt (E : List (Value × Value)) (ns : List Nat) : Prop where
  nd : (E.map (·.1)).Nodup
  ent : ∀ e ∈ E, ∃ v : Nat, e = (kV v, kV (ns.count v)) ∧ ns.count v ≠ 0
  all : ∀ v : Nat, ns.count v ≠ 0 → (kV v, kV (ns.count v)) ∈ E
theorem Cnt.nil : Cnt [] [] := ⟨by simp, by simp, by simp⟩
theorem kV_inj {a b : Nat} (h : kV a = kV b) : a = b := by unfold kV at h; rw [Value.int.injEq] at h; have := h.2; omega
theorem find_some : ∀ (E : List (Value × Value)) (v : Nat) (u : Value), (E.map (·.1)).Nodup → (∀ e ∈ E, ∃ x : Nat, e.1 = kV x) → (kV v, u) ∈ E → mfind (kV v) E = some u
  | [], v, u, _, _, h => by simp at h
  | (x, y) :: E, v, u, hn, hk, h => by
    simp only [List.map_cons, List.nodup_cons] at hn
    obtain ⟨b, hb⟩ := hk (x, y) (by simp)
    simp only at hb
    subst hb
    unfold mfind
    rw [eqK]
    rcases List.mem_cons.1 h with h2 | h2
    · rw [Prod.mk.injEq] at h2
      rw [decide_eq_true (kV_inj h2.1), cond_true, h2.2]
    · have hne : ¬ v = b := fun e => by
        subst e
        exact hn.1 (List.mem_map.2 ⟨(kV v, u), h2, rfl⟩)
      rw [decide_eq_false hne, cond_false]
      exact find_some E v u hn.2 (fun e he => hk e (by simp [he])) h2
theorem find_none : ∀ (E : List (Value × Value)) (v : Nat), (∀ e ∈ E, ∃ x : Nat, e.1 = kV x ∧ x ≠ v) → mfind (kV v) E = none
  | [], v, _ => rfl
  | (x, y) :: E, v, hk => by
    obtain ⟨b, hb, hne⟩ := hk (x, y) (by simp)
    simp only at hb
    subst hb
    unfold mfind
    rw [eqK, decide_eq_false (fun e => hne e.symm), cond_false]
    exact find_none E v (fun e he => hk e (by simp [he]))
theorem Cnt.find {E : List (Value × Value)} {ns : List Nat} (h : Cnt E ns) (v : Nat) : mfind (kV v) E = if ns.count v = 0 then none else some (kV (ns.count v)) := by
  split
  · rename_i h0
    refine find_none E v fun e he => ?_
    obtain ⟨x, rfl, hx⟩ := h.ent e he
    exact ⟨x, rfl, fun e => by subst e; exact hx h0⟩
  · rename_i h0
    refine find_some E v _ h.nd (fun e he => ?_) (h.all v h0)
    obtain ⟨x, rfl, hx⟩ := h.ent e he
    exact ⟨x, rfl⟩
theorem Cnt.push {E : List (Value × Value)} {ns : List Nat} {v : Nat} (h : Cnt E ns) (h0 : ns.count v = 0) : Cnt (E ++ [(kV v, kV 1)]) (ns ++ [v]) := by
  have hc : ∀ x, (ns ++ [v]).count x = ns.count x + (if v = x then 1 else 0) := fun x => by
    rw [List.count_append, List.count_singleton]
    congr 1
    by_cases e : v = x <;> simp [e]
  refine ⟨?_, ?_, ?_⟩
  · rw [List.map_append, List.nodup_append]
    refine ⟨h.nd, by simp, ?_⟩
    intro a ha b hb
    simp only [List.map_cons, List.map_nil, List.mem_singleton] at hb
    subst hb
    obtain ⟨e, he, rfl⟩ := List.mem_map.1 ha
    obtain ⟨x, rfl, hx⟩ := h.ent e he
    intro e
    have := kV_inj e
    subst this
    exact hx h0
  · intro e he
    rcases List.mem_append.1 he with he | he
    · obtain ⟨x, rfl, hx⟩ := h.ent e he
      have hne : ¬ v = x := fun e => by subst e; exact hx h0
      exact ⟨x, by rw [hc, if_neg hne, Nat.add_zero], by rw [hc, if_neg hne]; omega⟩
    · rw [List.mem_singleton.1 he]
      exact ⟨v, by rw [hc, if_pos rfl, h0], by rw [hc, if_pos rfl]; omega⟩
  · intro x hx
    rw [hc] at hx ⊢
    by_cases e : v = x
    · subst e
      rw [if_pos rfl, h0]
      simp
    · rw [if_neg e] at hx ⊢
      exact List.mem_append.2 (.inl (h.all x hx))
theorem Cnt.upd {E : List (Value × Value)} {ns : List Nat} {v j : Nat} {u : Value} (h : Cnt E ns) (hj : E[j]? = some (kV v, u)) : Cnt (E.set j (kV v, kV (ns.count v + 1))) (ns ++ [v]) := by
  have hc : ∀ x, (ns ++ [v]).count x = ns.count x + (if v = x then 1 else 0) := fun x => by
    rw [List.count_append, List.count_singleton]
    congr 1
    by_cases e : v = x <;> simp [e]
  have hjl := (List.getElem?_eq_some_iff.1 hj).1
  have hkeys : (E.set j (kV v, kV (ns.count v + 1))).map (·.1) = E.map (·.1) := map_set_same (fun e : Value × Value => e.1) E j _ _ hj rfl
  have hv0 : ns.count v ≠ 0 := by
    obtain ⟨x, e, hx⟩ := h.ent _ (List.mem_of_getElem? hj)
    rw [Prod.mk.injEq] at e
    have := kV_inj e.1
    subst this
    exact hx
  have hother : ∀ (i : Nat) (e : Value × Value), E[i]? = some e → i ≠ j → e.1 ≠ kV v := by
    intro i e hi hne he
    have h1 : (E.map (·.1))[i]? = some (kV v) := by rw [List.getElem?_map, hi, ← he]; rfl
    have h2 : (E.map (·.1))[j]? = some (kV v) := by rw [List.getElem?_map, hj]; rfl
    obtain ⟨l1, e1⟩ := List.getElem?_eq_some_iff.1 h1
    obtain ⟨l2, e2⟩ := List.getElem?_eq_some_iff.1 h2
    have hpw := List.pairwise_iff_getElem.1 h.nd
    rcases Nat.lt_trichotomy i j with hl | hl | hl
    · exact hpw i j l1 l2 hl (by rw [e1, e2])
    · exact hne hl
    · exact hpw j i l2 l1 hl (by rw [e1, e2])
  refine ⟨by rw [hkeys]; exact h.nd, ?_, ?_⟩
  · intro e he
    obtain ⟨i, hi⟩ := List.mem_iff_getElem?.1 he
    by_cases hij : j = i
    · subst hij
      rw [List.getElem?_set_self hjl, Option.some.injEq] at hi
      subst hi
      exact ⟨v, by rw [hc, if_pos rfl], by rw [hc, if_pos rfl]; omega⟩
    · rw [List.getElem?_set_ne hij] at hi
      have hne := hother i e hi (fun h => hij h.symm)
      obtain ⟨x, rfl, hx⟩ := h.ent e (List.mem_of_getElem? hi)
      have hvx : ¬ v = x := fun e => by subst e; exact hne rfl
      exact ⟨x, by rw [hc, if_neg hvx, Nat.add_zero], by rw [hc, if_neg hvx]; omega⟩
  · intro x hx
    rw [hc] at hx ⊢
    by_cases e : v = x
    · subst e
      rw [if_pos rfl]
      exact List.mem_of_getElem? (List.getElem?_set_self hjl)
    · rw [if_neg e] at hx ⊢
      obtain ⟨i, hi⟩ := List.mem_iff_getElem?.1 (h.all x hx)
      have hij : j ≠ i := fun e2 => by
        subst e2
        rw [hj, Option.some.injEq, Prod.mk.injEq] at hi
        exact e (kV_inj hi.1)
      exact List.mem_of_getElem? (i := i) (by rw [List.getElem?_set_ne hij]; exact hi)
theorem Cnt.keys {E : List (Value × Value)} {ns : List Nat} (h : Cnt E ns) : keysB (kOf TT 3) (E.map (·.1)) = true := by
  have : ∀ l : List Value, (∀ x ∈ l, ∃ v : Nat, x = kV v) → keysB (kOf TT 3) l = true := by
    intro l
    induction l with
    | nil => intro _; rfl
    | cons x l ih =>
      intro hx
      obtain ⟨v, rfl⟩ := hx x (by simp)
      simp only [keysB]
      rw [show Wk.keyB (kOf TT 3) (kV v) = true from rfl, cond_true]
      exact ih fun y hy => hx y (by simp [hy])
  refine this _ fun x hx => ?_
  obtain ⟨e, he, rfl⟩ := List.mem_map.1 hx
  obtain ⟨v, rfl, _⟩ := h.ent e he
  exact ⟨v, rfl⟩
/-- The numbers that the members of a term name. -/
def numsO : List (List UInt8) → Option (List Nat)
  | [] => some []
  | s :: r => match rowR s 2 with
    | some q => (match numT (q.getD 0 []) with
      | some v => (numsO r).map (v :: ·)
      | none => none)
    | none => none
def decM (x : Tx) (a : Nat) (tags : List (List UInt8)) (t3 : List UInt8) : Except Int Rcp := match unmbS x.1 t3 with
  | none => .error 7
  | some mb => if mayR ⟨x, (a : Int), mb, tags⟩ = true then .ok ⟨x, (a : Int), mb, tags⟩ else .error 7
def decN (x : Tx) (a : Nat) (tags : List (List UInt8)) (t3 : List UInt8) : Except Int Rcp := match rowR t3 (-1) with
  | none => .error 7
  | some ps => match numsO ps with
    | none => .error 7
    | some ns => if ns.Nodup then decM x a tags t3 else .error 260
def decL (t0 t1 t2 t3 t4 : List UInt8) : Except Int Rcp := if t0 = (dataS RW).1 then (match untxO t1 with
  | none => .error 7
  | some x => match numT t2 with
    | none => .error 7
    | some a => match rowR t4 (-1) with
      | none => .error 7
      | some tags => decN x a tags t3) else .error 7
def decRc (S : List UInt8) : Except Int Rcp := if 16384 < S.length then .error 5 else match rowR S 5 with
  | none => .error 7
  | some l => decL (l.getD 0 []) (l.getD 1 []) (l.getD 2 []) (l.getD 3 []) (l.getD 4 [])
theorem len5 {α : Type} {l : List α} (h : l.length = 5) : ∃ a b c d e, l = [a, b, c, d, e] := by
  match l, h with
  | [a, b, c, d, e], _ => exact ⟨a, b, c, d, e, rfl⟩
theorem rowR_is {S : List UInt8} {n : Int} {l : List (List UInt8)} (h : rowR S n = some l) : kindS S = 3 ∧ l = partsS S ∧ (n < 0 ∨ (l.length : Int) = n) ∧ (∀ p ∈ l, checkS p = 0) ∧ l.length ≤ 16384 := by
  unfold rowR at h
  split at h
  · rename_i hc
    simp only [Option.some.injEq] at h
    subst h
    have h0 := kind_chk hc.1 (by decide)
    have h1 := partsS_len S
    have h2 := (check0 h0).2.2.1
    exact ⟨hc.1, rfl, hc.2, parts_ok h0, by omega⟩
  · simp at h
theorem count_nodup {ns : List Nat} (h : ∀ v, ns.count v ≠ 0 → ns.count v = 1) : ns.Nodup := by
  rw [List.nodup_iff_count]
  intro v
  by_cases h0 : ns.count v = 0
  · omega
  · have := h v h0; omega
theorem nodup_count {ns : List Nat} (h : ns.Nodup) (v : Nat) (h0 : ns.count v ≠ 0) : ns.count v = 1 := by
  have := (List.nodup_iff_count.1 h) v
  omega
theorem st5r {w : World} {p t : Nat} {a0 a1 a2 a3 a4 a5 x0 x1 x2 x3 x5 : Value} (h : w.heap[p]? = some (.cells #[a0, a1, a2, a3, a4, a5] t)) : (((((w.setCell ⟨p, 0, none⟩ x0).setCell ⟨p, 1, none⟩ x1).setCell ⟨p, 2, none⟩ x2).setCell ⟨p, 3, none⟩ x3).setCell ⟨p, 5, none⟩ x5).heap[p]? = some (.cells #[x0, x1, x2, x3, a4, x5] t) := by
  have h0 : (w.setCell ⟨p, 0, none⟩ x0).heap[p]? = some (.cells #[x0, a1, a2, a3, a4, a5] t) := by rw [heapSet h]; rfl
  revert h0
  generalize w.setCell ⟨p, 0, none⟩ x0 = w1
  intro h0
  have h1 : (w1.setCell ⟨p, 1, none⟩ x1).heap[p]? = some (.cells #[x0, x1, a2, a3, a4, a5] t) := by rw [heapSet h0]; rfl
  revert h1
  generalize w1.setCell ⟨p, 1, none⟩ x1 = w2
  intro h1
  have h2 : (w2.setCell ⟨p, 2, none⟩ x2).heap[p]? = some (.cells #[x0, x1, x2, a3, a4, a5] t) := by rw [heapSet h1]; rfl
  revert h2
  generalize w2.setCell ⟨p, 2, none⟩ x2 = w3
  intro h2
  have h3 : (w3.setCell ⟨p, 3, none⟩ x3).heap[p]? = some (.cells #[x0, x1, x2, x3, a4, a5] t) := by rw [heapSet h2]; rfl
  revert h3
  generalize w3.setCell ⟨p, 3, none⟩ x3 = w4
  intro h3
  have h4 : (w4.setCell ⟨p, 5, none⟩ x5).heap[p]? = some (.cells #[x0, x1, x2, x3, a4, x5] t) := by rw [heapSet h3]; rfl
  revert h4
  generalize w4.setCell ⟨p, 5, none⟩ x5 = w5
  intro h4
  exact h4
theorem cellMS {S : List Nat} {w w' : World} {b o : Nat} {v : Value} (h : w.cell? ⟨b, o, none⟩ = some v) (hm : Mod S w w') (hb : b ∉ S) : w'.cell? ⟨b, o, none⟩ = some v := by
  rw [World.cell?_of_block (w := w) (hm.block b (World.block_lt_of_cell? w _ h) hb)]
  exact h
theorem look_k {w : World} {r : Nat} {E : List (Value × Value)} {ns : List Nat} (v : Nat) (h : MapAt w r E) (hc : Cnt E ns) : lookV TT 214 (.map (some r)) (.int .i64 v) false w = some (.int .i64 (ns.count v : Nat)) := by
  have hl := look_at (T := TT) (t := 214) (i := .int .i64 v) (ok := false) h rfl
  rw [hl]
  show cond (Wk.keyB (kOf TT 3) (.int .i64 v)) (cond (keysB (kOf TT 3) (E.map (·.1))) (some (lookR false _ (mfind (kV v) E))) none) none = _
  rw [show Wk.keyB (kOf TT 3) (.int .i64 v) = true from rfl, hc.keys, cond_true, cond_true, hc.find v]
  split
  · rename_i h0; rw [h0]; rfl
  · rfl
theorem wRdTxn1_cps (S : List UInt8) (hS : S.length ≤ maxLen) (b p : Nat) (w : World) (hb : w.heap[b]? = some (.cells #[.string ⟨S.toArray⟩] 9 (0, 0))) (hp : w.heap[p]? = some (.cells #[.int .i64 0, .int .i64 0, .int .i64 0] 23 (0, 0))) (R : Ending → World → Prop)
    (h1 : ∀ x w', untxO S = some x → w'.heap[p]? = some (.cells (txC x).toArray 23 (0, 0)) → Mod [p] w w' → R (.returned (.tuple #[])) w') (h0 : untxO S = none → ∀ w', Mod [] w w' → R (.panicked wnoneV) w') :
    Calls Tryz.prog 152 #[.pointer (some ⟨b, 0, none⟩), .pointer (some ⟨p, 0, none⟩)] w R := by
  refine calls_go 4000 okT Tryz.func152 rfl (rs := []) rfl Tryz.ntmps152 (args := [.pointer (some ⟨b, 0, none⟩), .pointer (some ⟨p, 0, none⟩)]) ?_
  have cb := fun o => cellOf (o := o) hb
  simp (maxSteps := 1000000) (disch := first | omega | (simp only [sizeAlloc, sizeDrew, sizeSet, sizePut] <;> omega) | fail) only [GS, TT_eq, TTl, Nat.reduceAdd, Nat.reduceMul, Nat.reduceSub, Nat.reduceDiv, Nat.reduceMod, Nat.reducePow, Nat.reduceEqDiff, ↓reduceIte, reduceCtorEq, Int.reduceToNat, Int.reduceAdd, Int.reduceSub, Int.reduceMul, cb]
  refine ⟨fok140, wUntxn_cps S hS _ _ (fun x w1 hx hM => .inl ⟨_, rfl, hold_ops okT (rs := []) rfl ?_⟩) (fun hx w1 hM => .inr ⟨_, rfl, hold_ex okT (rs := []) rfl ?_⟩)⟩
  · obtain ⟨x1, x2, x3⟩ := x
    have hp1 := hM.get hp (by simp)
    have cp := fun o => cellOf (o := o) hp1
    have xp := fun o => frozenOf (o := o) hp1
    unfold txV
    simp (maxSteps := 1000000) (disch := first | omega | (simp only [sizeAlloc, sizeDrew, sizeSet, sizePut] <;> omega) | fail) only [GS, TT_eq, TTl, Nat.reduceAdd, Nat.reduceMul, Nat.reduceSub, Nat.reduceDiv, Nat.reduceMod, Nat.reducePow, Nat.reduceEqDiff, ↓reduceIte, reduceCtorEq, Int.reduceToNat, Int.reduceAdd, Int.reduceSub, Int.reduceMul, cp, xp]
    exact h1 _ _ hx (st3 hp1) ((((hM.mono (by simp)).set (p := ⟨p, 0, none⟩) (.inl (by simp)) _).set (p := ⟨p, 1, none⟩) (.inl (by simp)) _).set (p := ⟨p, 2, none⟩) (.inl (by simp)) _)
  · simp (maxSteps := 1000000) (disch := first | omega | (simp only [sizeAlloc, sizeDrew, sizeSet, sizePut] <;> omega) | fail) only [GS, TT_eq, TTl, Nat.reduceAdd, Nat.reduceMul, Nat.reduceSub, Nat.reduceDiv, Nat.reduceMod, Nat.reducePow, Nat.reduceEqDiff, ↓reduceIte, reduceCtorEq, Int.reduceToNat, Int.reduceAdd, Int.reduceSub, Int.reduceMul]
    exact h0 hx _ hM
theorem wReadTxn_cps (S : List UInt8) (hS : S.length ≤ maxLen) (w : World) (R : Ending → World → Prop)
    (h1 : ∀ x w', untxO S = some x → Mod [] w w' → R (.returned (.tuple #[txV x, .bool true])) w') (h0 : untxO S = none → ∀ w', Mod [] w w' → R (.returned (.tuple #[txV (0, 0, 0), .bool false])) w') :
    Calls Tryz.prog 113 #[.string ⟨S.toArray⟩] w R := by
  refine calls_go 4000 okT Tryz.func113 rfl (rs := [.cell 2 23, .tmp 3]) rfl Tryz.ntmps113 (args := [.string ⟨S.toArray⟩]) ?_
  simp (maxSteps := 1000000) (disch := first | omega | (simp only [sizeAlloc, sizeDrew, sizeSet, sizePut] <;> omega) | fail) only [GS, TT_eq, TTl, Nat.reduceAdd, Nat.reduceMul, Nat.reduceSub, Nat.reduceDiv, Nat.reduceMod, Nat.reducePow, Nat.reduceEqDiff, ↓reduceIte, reduceCtorEq, Int.reduceToNat, Int.reduceAdd, Int.reduceSub, Int.reduceMul]
  have hb := heapAlloc (o' := .cells #[.int .i64 0, .int .i64 0, .int .i64 0] 23) (heapNew (w := w) (o := .cells #[.string ⟨S.toArray⟩] 9))
  have hp := heapNew (w := w.alloc (.cells #[.string ⟨S.toArray⟩] 9)) (o := .cells #[.int .i64 0, .int .i64 0, .int .i64 0] 23)
  have hM0 := ((Mod.refl [] w).alloc (.cells #[.string ⟨S.toArray⟩] 9)).alloc (.cells #[.int .i64 0, .int .i64 0, .int .i64 0] 23)
  rw [sizeAlloc] at hp
  generalize hW : (w.alloc (.cells #[.string ⟨S.toArray⟩] 9)).alloc (.cells #[.int .i64 0, .int .i64 0, .int .i64 0] 23) = W at hb hp hM0 ⊢
  generalize hn : w.heap.size = n at *
  have hpl := (Array.getElem?_eq_some_iff.1 hp).1
  have hb2 := heapAlloc (o' := .cells #[.bool false] 4) hb
  have hp2 := heapAlloc (o' := .cells #[.bool false] 4) hp
  have hq2 := heapNew (w := W) (o := .cells #[.bool false] 4)
  have hM2 := (Mod.refl [] W).alloc (.cells #[.bool false] 4)
  have hge : w.heap.size ≤ n + 1 := by omega
  refine ⟨fok96, wTry_cps 152 #[.pointer (some ⟨n, 0, none⟩), .pointer (some ⟨n + 1, 0, none⟩)] fok152 W _ (fun w' => ∃ x, untxO S = some x ∧ w'.heap[n + 1]? = some (.cells (txC x).toArray 23 (0, 0)) ∧ Mod [] w w') (fun w' => untxO S = none ∧ w'.heap[n + 1]? = some (.cells #[.int .i64 0, .int .i64 0, .int .i64 0] 23 (0, 0)) ∧ Mod [] w w') ?_ ?_ ?_⟩
  · refine wRdTxn1_cps S hS n (n + 1) _ hb2 hp2 _ ?_ ?_
    · intro x w' hx hh hM
      refine ⟨.inl ⟨rfl, x, hx, hh, (hM0.trans hM2 (by simp)).trans hM (fun y hy => .inr (by simp at hy; omega))⟩, hM.get hq2 (by simp; omega), ?_⟩
      have := hM.size
      rw [sizeAlloc] at this
      omega
    · intro hx w' hM
      refine ⟨.inr ⟨rfl, hx, hM.get hp2 (by simp), hM0.trans (hM2.trans hM (by simp)) (by simp)⟩, hM.get hq2 (by simp), ?_⟩
      have := hM.size
      rw [sizeAlloc] at this
      omega
  · rintro w1 w2 ⟨x, hx, hh, hM1⟩ hM12
    refine .inl ⟨_, rfl, hold_ops okT (rs := [.cell 2 23, .tmp 3]) rfl ?_⟩
    obtain ⟨x1, x2, x3⟩ := x
    have hh2 := hM12.get hh (by simp; omega)
    have hM02 : Mod [] w w2 := hM1.trans hM12 (fun y hy => .inr (by simp at hy; omega))
    unfold txC at hh2
    simp only at hh2
    have c2 := fun o => cellOf (o := o) hh2
    have x2' := fun o => frozenOf (o := o) hh2
    simp (maxSteps := 1000000) (disch := first | omega | (simp only [sizeAlloc, sizeDrew, sizeSet, sizePut] <;> omega) | fail) only [GS, TT_eq, TTl, Nat.reduceAdd, Nat.reduceMul, Nat.reduceSub, Nat.reduceDiv, Nat.reduceMod, Nat.reducePow, Nat.reduceEqDiff, ↓reduceIte, reduceCtorEq, Int.reduceToNat, Int.reduceAdd, Int.reduceSub, Int.reduceMul, c2, x2']
    have hhE : (((w2.setCell ⟨n + 1, 0, none⟩ (.int .i64 x1)).setCell ⟨n + 1, 1, none⟩ (.int .i64 x2)).setCell ⟨n + 1, 2, none⟩ (.int .i64 x3)).heap[n + 1]? = _ := st3 hh2
    have hME : Mod [] w (((w2.setCell ⟨n + 1, 0, none⟩ (.int .i64 x1)).setCell ⟨n + 1, 1, none⟩ (.int .i64 x2)).setCell ⟨n + 1, 2, none⟩ (.int .i64 x3)) := ((hM02.set (p := ⟨n + 1, 0, none⟩) (.inr hge) _).set (p := ⟨n + 1, 1, none⟩) (.inr hge) _).set (p := ⟨n + 1, 2, none⟩) (.inr hge) _
    revert hhE hME
    generalize ((w2.setCell ⟨n + 1, 0, none⟩ (.int .i64 x1)).setCell ⟨n + 1, 1, none⟩ (.int .i64 x2)).setCell ⟨n + 1, 2, none⟩ (.int .i64 x3) = wE
    intro hhE hME
    have cE := fun o => cellOf (o := o) hhE
    simp (maxSteps := 1000000) (disch := first | omega | (simp only [sizeAlloc, sizeDrew, sizeSet, sizePut] <;> omega) | fail) only [GS, TT_eq, TTl, Nat.reduceAdd, Nat.reduceMul, Nat.reduceSub, Nat.reduceDiv, Nat.reduceMod, Nat.reducePow, Nat.reduceEqDiff, ↓reduceIte, reduceCtorEq, Int.reduceToNat, Int.reduceAdd, Int.reduceSub, Int.reduceMul, loadW]
    exact ⟨_, cE 0, _, cE 1, _, cE 2, h1 _ _ hx hME⟩
  · rintro w1 w2 ⟨hx, hh, hM1⟩ hM12
    refine .inl ⟨_, rfl, hold_ops okT (rs := [.cell 2 23, .tmp 3]) rfl ?_⟩
    have hh2 := hM12.get hh (by simp; omega)
    have hM02 : Mod [] w w2 := hM1.trans hM12 (fun y hy => .inr (by simp at hy; omega))
    have c2 := fun o => cellOf (o := o) hh2
    have x2' := fun o => frozenOf (o := o) hh2
    simp (maxSteps := 1000000) (disch := first | omega | (simp only [sizeAlloc, sizeDrew, sizeSet, sizePut] <;> omega) | fail) only [GS, TT_eq, TTl, Nat.reduceAdd, Nat.reduceMul, Nat.reduceSub, Nat.reduceDiv, Nat.reduceMod, Nat.reducePow, Nat.reduceEqDiff, ↓reduceIte, reduceCtorEq, Int.reduceToNat, Int.reduceAdd, Int.reduceSub, Int.reduceMul, c2, x2']
    have hhE : (((w2.setCell ⟨n + 1, 0, none⟩ (.int .i64 0)).setCell ⟨n + 1, 1, none⟩ (.int .i64 0)).setCell ⟨n + 1, 2, none⟩ (.int .i64 0)).heap[n + 1]? = _ := st3 hh2
    have hME : Mod [] w (((w2.setCell ⟨n + 1, 0, none⟩ (.int .i64 0)).setCell ⟨n + 1, 1, none⟩ (.int .i64 0)).setCell ⟨n + 1, 2, none⟩ (.int .i64 0)) := ((hM02.set (p := ⟨n + 1, 0, none⟩) (.inr hge) _).set (p := ⟨n + 1, 1, none⟩) (.inr hge) _).set (p := ⟨n + 1, 2, none⟩) (.inr hge) _
    revert hhE hME
    generalize ((w2.setCell ⟨n + 1, 0, none⟩ (.int .i64 0)).setCell ⟨n + 1, 1, none⟩ (.int .i64 0)).setCell ⟨n + 1, 2, none⟩ (.int .i64 0) = wE
    intro hhE hME
    have cE := fun o => cellOf (o := o) hhE
    simp (maxSteps := 1000000) (disch := first | omega | (simp only [sizeAlloc, sizeDrew, sizeSet, sizePut] <;> omega) | fail) only [GS, TT_eq, TTl, Nat.reduceAdd, Nat.reduceMul, Nat.reduceSub, Nat.reduceDiv, Nat.reduceMod, Nat.reducePow, Nat.reduceEqDiff, ↓reduceIte, reduceCtorEq, Int.reduceToNat, Int.reduceAdd, Int.reduceSub, Int.reduceMul, loadW]
    exact ⟨_, cE 0, _, cE 1, _, cE 2, h0 hx _ hME⟩
theorem wRdMbs1_cps (x : Tx) (S : List UInt8) (hS : S.length ≤ maxLen) (a b p : Nat) (w : World) (ha : w.heap[a]? = some (.cells (txC x).toArray 23 (0, 0))) (hb : w.heap[b]? = some (.cells #[.string ⟨S.toArray⟩] 9 (0, 0))) (hp : w.heap[p]? = some (.cells #[.slice none 0 0] 24 (0, 0))) (R : Ending → World → Prop)
    (h1 : ∀ l sv w', unmbS x.1 S = some l → w'.heap[p]? = some (.cells #[sv] 24 (0, 0)) → w'.ownsRow w.heap.size 84 2 sv l.length (l.flatMap mbC) → Mod [p] w w' → R (.returned (.tuple #[])) w') (h0 : unmbS x.1 S = none → ∀ w', Mod [] w w' → R (.panicked wnoneV) w') :
    Calls Tryz.prog 153 #[.pointer (some ⟨a, 0, none⟩), .pointer (some ⟨b, 0, none⟩), .pointer (some ⟨p, 0, none⟩)] w R := by
  have hU := wUnmembers_cps x S hS
  obtain ⟨x1, x2, x3⟩ := x
  unfold txC at ha
  unfold txV at hU
  simp only at ha hU h1 h0
  have hpl := (Array.getElem?_eq_some_iff.1 hp).1
  refine calls_go 4000 okT Tryz.func153 rfl (rs := []) rfl Tryz.ntmps153 (args := [.pointer (some ⟨a, 0, none⟩), .pointer (some ⟨b, 0, none⟩), .pointer (some ⟨p, 0, none⟩)]) ?_
  have ca := fun o => cellOf (o := o) ha
  have cb := fun o => cellOf (o := o) hb
  simp (maxSteps := 1000000) (disch := first | omega | (simp only [sizeAlloc, sizeDrew, sizeSet, sizePut] <;> omega) | fail) only [GS, TT_eq, TTl, Nat.reduceAdd, Nat.reduceMul, Nat.reduceSub, Nat.reduceDiv, Nat.reduceMod, Nat.reducePow, Nat.reduceEqDiff, ↓reduceIte, reduceCtorEq, Int.reduceToNat, Int.reduceAdd, Int.reduceSub, Int.reduceMul, ca, cb]
  refine ⟨fok121, hU _ _ (fun l sv w1 hl hown hM => .inl ⟨_, rfl, hold_ops okT (rs := []) rfl ?_⟩) (fun hx w1 hM => .inr ⟨_, rfl, hold_ex okT (rs := []) rfl ?_⟩)⟩
  · have hp1 := hM.get hp (by simp)
    have cp := fun o => cellOf (o := o) hp1
    have xp := fun o => frozenOf (o := o) hp1
    have hsv := ownsRow_one hown
    simp (maxSteps := 1000000) (disch := first | omega | (simp only [sizeAlloc, sizeDrew, sizeSet, sizePut] <;> omega) | fail) only [GS, TT_eq, TTl, Nat.reduceAdd, Nat.reduceMul, Nat.reduceSub, Nat.reduceDiv, Nat.reduceMod, Nat.reducePow, Nat.reduceEqDiff, ↓reduceIte, reduceCtorEq, Int.reduceToNat, Int.reduceAdd, Int.reduceSub, Int.reduceMul, cp, xp, cellsL_one hsv, hsv]
    exact h1 _ sv _ hl (by rw [heapSet hp1]; rfl) (ownsRow_mod (S := [p]) hown ((Mod.refl [p] w1).set (p := ⟨p, 0, none⟩) (.inl (by simp)) sv) (by simp; omega)) ((hM.mono (by simp)).set (p := ⟨p, 0, none⟩) (.inl (by simp)) _)
  · simp (maxSteps := 1000000) (disch := first | omega | (simp only [sizeAlloc, sizeDrew, sizeSet, sizePut] <;> omega) | fail) only [GS, TT_eq, TTl, Nat.reduceAdd, Nat.reduceMul, Nat.reduceSub, Nat.reduceDiv, Nat.reduceMod, Nat.reducePow, Nat.reduceEqDiff, ↓reduceIte, reduceCtorEq, Int.reduceToNat, Int.reduceAdd, Int.reduceSub, Int.reduceMul]
    exact h0 hx _ hM
theorem wReadMembers_cps (x : Tx) (S : List UInt8) (hS : S.length ≤ maxLen) (w : World) (R : Ending → World → Prop)
    (h1 : ∀ l sv w', unmbS x.1 S = some l → w'.ownsRow w.heap.size 84 2 sv l.length (l.flatMap mbC) → Mod [] w w' → R (.returned (.tuple #[sv, .bool true])) w') (h0 : unmbS x.1 S = none → ∀ w', Mod [] w w' → R (.returned (.tuple #[.slice none 0 0, .bool false])) w') :
    Calls Tryz.prog 115 #[txV x, .string ⟨S.toArray⟩] w R := by
  have hR1 := wRdMbs1_cps x S hS
  obtain ⟨x1, x2, x3⟩ := x
  unfold txV
  unfold txC at hR1
  simp only at hR1 h1 h0 ⊢
  refine calls_go 4000 okT Tryz.func115 rfl (rs := [.cell 4 24, .tmp 5]) rfl Tryz.ntmps115 (args := [.agg #[.int .i64 x1, .int .i64 x2, .int .i64 x3], .string ⟨S.toArray⟩]) ?_
  simp (maxSteps := 1000000) (disch := first | omega | (simp only [sizeAlloc, sizeDrew, sizeSet, sizePut] <;> omega) | fail) only [GS, TT_eq, TTl, Nat.reduceAdd, Nat.reduceMul, Nat.reduceSub, Nat.reduceDiv, Nat.reduceMod, Nat.reducePow, Nat.reduceEqDiff, ↓reduceIte, reduceCtorEq, Int.reduceToNat, Int.reduceAdd, Int.reduceSub, Int.reduceMul]
  have ha := heapAlloc (o' := .cells #[.slice none 0 0] 24) (heapAlloc (o' := .cells #[.string ⟨S.toArray⟩] 9) (heapNew (w := w) (o := .cells #[.int .i64 x1, .int .i64 x2, .int .i64 x3] 23)))
  have hb := heapAlloc (o' := .cells #[.slice none 0 0] 24) (heapNew (w := w.alloc (.cells #[.int .i64 x1, .int .i64 x2, .int .i64 x3] 23)) (o := .cells #[.string ⟨S.toArray⟩] 9))
  have hp := heapNew (w := (w.alloc (.cells #[.int .i64 x1, .int .i64 x2, .int .i64 x3] 23)).alloc (.cells #[.string ⟨S.toArray⟩] 9)) (o := .cells #[.slice none 0 0] 24)
  have hM0 := (((Mod.refl [] w).alloc (.cells #[.int .i64 x1, .int .i64 x2, .int .i64 x3] 23)).alloc (.cells #[.string ⟨S.toArray⟩] 9)).alloc (.cells #[.slice none 0 0] 24)
  rw [sizeAlloc] at hb
  rw [sizeAlloc, sizeAlloc] at hp
  generalize hW : ((w.alloc (.cells #[.int .i64 x1, .int .i64 x2, .int .i64 x3] 23)).alloc (.cells #[.string ⟨S.toArray⟩] 9)).alloc (.cells #[.slice none 0 0] 24) = W at ha hb hp hM0 ⊢
  generalize hn : w.heap.size = n at *
  have hpl := (Array.getElem?_eq_some_iff.1 hp).1
  have ha2 := heapAlloc (o' := .cells #[.bool false] 4) ha
  have hb2 := heapAlloc (o' := .cells #[.bool false] 4) hb
  have hp2 := heapAlloc (o' := .cells #[.bool false] 4) hp
  have hq2 := heapNew (w := W) (o := .cells #[.bool false] 4)
  have hM2 := (Mod.refl [] W).alloc (.cells #[.bool false] 4)
  have hge : w.heap.size ≤ n + 1 + 1 := by omega
  refine ⟨fok96, wTry_cps 153 #[.pointer (some ⟨n, 0, none⟩), .pointer (some ⟨n + 1, 0, none⟩), .pointer (some ⟨n + 1 + 1, 0, none⟩)] fok153 W _ (fun w' => ∃ l sv, unmbS x1 S = some l ∧ w'.heap[n + 1 + 1]? = some (.cells #[sv] 24 (0, 0)) ∧ w'.ownsRow (W.heap.size + 1) 84 2 sv l.length (l.flatMap mbC) ∧ Mod [] w w') (fun w' => unmbS x1 S = none ∧ w'.heap[n + 1 + 1]? = some (.cells #[.slice none 0 0] 24 (0, 0)) ∧ Mod [] w w') ?_ ?_ ?_⟩
  · refine hR1 n (n + 1) (n + 1 + 1) _ ha2 hb2 hp2 _ ?_ ?_
    · intro l sv w' hx hh hown hM
      refine ⟨.inl ⟨rfl, l, sv, hx, hh, by rw [sizeAlloc] at hown; exact hown, (hM0.trans hM2 (by simp)).trans hM (fun y hy => .inr (by simp at hy; omega))⟩, hM.get hq2 (by simp; omega), ?_⟩
      have := hM.size
      rw [sizeAlloc] at this
      omega
    · intro hx w' hM
      refine ⟨.inr ⟨rfl, hx, hM.get hp2 (by simp), hM0.trans (hM2.trans hM (by simp)) (by simp)⟩, hM.get hq2 (by simp), ?_⟩
      have := hM.size
      rw [sizeAlloc] at this
      omega
  · rintro w1 w2 ⟨l, sv, hx, hh, hown, hM1⟩ hM12
    refine .inl ⟨_, rfl, hold_ops okT (rs := [.cell 4 24, .tmp 5]) rfl ?_⟩
    have hh2 := hM12.get hh (by simp; omega)
    have hown2 := ownsRow_mod hown hM12 (by simp)
    have hM02 : Mod [] w w2 := hM1.trans hM12 (fun y hy => .inr (by simp at hy; omega))
    have c2 := fun o => cellOf (o := o) hh2
    have x2' := fun o => frozenOf (o := o) hh2
    have hsv := ownsRow_one hown2
    simp (maxSteps := 1000000) (disch := first | omega | (simp only [sizeAlloc, sizeDrew, sizeSet, sizePut] <;> omega) | fail) only [GS, TT_eq, TTl, Nat.reduceAdd, Nat.reduceMul, Nat.reduceSub, Nat.reduceDiv, Nat.reduceMod, Nat.reducePow, Nat.reduceEqDiff, ↓reduceIte, reduceCtorEq, Int.reduceToNat, Int.reduceAdd, Int.reduceSub, Int.reduceMul, c2, x2', cellsL_one hsv, hsv]
    have hhE : (w2.setCell ⟨n + 1 + 1, 0, none⟩ sv).heap[n + 1 + 1]? = some (.cells #[sv] 24 (0, 0)) := by rw [heapSet hh2]; rfl
    have hME : Mod [] w (w2.setCell ⟨n + 1 + 1, 0, none⟩ sv) := hM02.set (p := ⟨n + 1 + 1, 0, none⟩) (.inr hge) _
    have hoE := ownsRow_base (base' := n) (ownsRow_mod (S := [n + 1 + 1]) hown2 ((Mod.refl [n + 1 + 1] w2).set (p := ⟨n + 1 + 1, 0, none⟩) (.inl (by simp)) sv) (by simp; omega)) (by omega)
    revert hhE hME hoE
    generalize w2.setCell ⟨n + 1 + 1, 0, none⟩ sv = wE
    intro hhE hME hoE
    have cE := fun o => cellOf (o := o) hhE
    simp (maxSteps := 1000000) (disch := first | omega | (simp only [sizeAlloc, sizeDrew, sizeSet, sizePut] <;> omega) | fail) only [GS, TT_eq, TTl, Nat.reduceAdd, Nat.reduceMul, Nat.reduceSub, Nat.reduceDiv, Nat.reduceMod, Nat.reducePow, Nat.reduceEqDiff, ↓reduceIte, reduceCtorEq, Int.reduceToNat, Int.reduceAdd, Int.reduceSub, Int.reduceMul, loadW]
    exact ⟨_, cE 0, h1 _ sv _ hx hoE hME⟩
  · rintro w1 w2 ⟨hx, hh, hM1⟩ hM12
    refine .inl ⟨_, rfl, hold_ops okT (rs := [.cell 4 24, .tmp 5]) rfl ?_⟩
    have hh2 := hM12.get hh (by simp; omega)
    have hM02 : Mod [] w w2 := hM1.trans hM12 (fun y hy => .inr (by simp at hy; omega))
    have c2 := fun o => cellOf (o := o) hh2
    have x2' := fun o => frozenOf (o := o) hh2
    simp (maxSteps := 1000000) (disch := first | omega | (simp only [sizeAlloc, sizeDrew, sizeSet, sizePut] <;> omega) | fail) only [GS, TT_eq, TTl, Nat.reduceAdd, Nat.reduceMul, Nat.reduceSub, Nat.reduceDiv, Nat.reduceMod, Nat.reducePow, Nat.reduceEqDiff, ↓reduceIte, reduceCtorEq, Int.reduceToNat, Int.reduceAdd, Int.reduceSub, Int.reduceMul, c2, x2']
    have hhE : (w2.setCell ⟨n + 1 + 1, 0, none⟩ (.slice none 0 0)).heap[n + 1 + 1]? = some (.cells #[.slice none 0 0] 24 (0, 0)) := by rw [heapSet hh2]; rfl
    have hME : Mod [] w (w2.setCell ⟨n + 1 + 1, 0, none⟩ (.slice none 0 0)) := hM02.set (p := ⟨n + 1 + 1, 0, none⟩) (.inr hge) _
    revert hhE hME
    generalize w2.setCell ⟨n + 1 + 1, 0, none⟩ (.slice none 0 0) = wE
    intro hhE hME
    have cE := fun o => cellOf (o := o) hhE
    simp (maxSteps := 1000000) (disch := first | omega | (simp only [sizeAlloc, sizeDrew, sizeSet, sizePut] <;> omega) | fail) only [GS, TT_eq, TTl, Nat.reduceAdd, Nat.reduceMul, Nat.reduceSub, Nat.reduceDiv, Nat.reduceMod, Nat.reducePow, Nat.reduceEqDiff, ↓reduceIte, reduceCtorEq, Int.reduceToNat, Int.reduceAdd, Int.reduceSub, Int.reduceMul, loadW]
    exact ⟨_, cE 0, h0 hx _ hME⟩
end Go.Proofs.YtdflchgfhmjhbaaGreatDoor
