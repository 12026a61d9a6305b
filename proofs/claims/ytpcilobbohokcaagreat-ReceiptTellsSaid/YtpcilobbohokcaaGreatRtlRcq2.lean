/-
  The reference's Encode of a receipt (walk).
-/
import Derived.Test.YtpcilobbohokcaaGreatRtlRcq1
set_option linter.unusedSimpArgs false
set_option linter.unusedVariables false
set_option maxRecDepth 20000
namespace Go.Proofs.YtpcilobbohokcaaGreat
open Go Go.Wk Go.RowKit
attribute [local irreducible] go Hold
open Go.Lib
theorem rcL_len (r : Rcp) (h : mayR r = true) : ∀ s ∈ rcL r, s.length ≤ 1000000 := by
  obtain ⟨htx, hau, hmb, -, hal⟩ := may_is h
  unfold rcL
  intro x hx
  simp only [List.mem_cons, List.not_mem_nil, or_false] at hx
  rcases hx with rfl | rfl | rfl | rfl | rfl
  · have := dataS_len RW; omega
  · have := txn_len r.tx; omega
  · rw [(num_ok hau).2]; have := (numE_hd (v := r.aud) hau.1 (by omega)).2.1; omega
  · have := mbrs_len r.tx.1 r.mbs; omega
  · have := made_len (114 :: numL r.tags.length) r.tags; omega
set_option maxRecDepth 20000 in
set_option maxHeartbeats 8000000 in
theorem rEncode26_cps (r : Rcp) (sm st : Value) (w : World) (hr : RcpIn w r sm st) (R : Ending → World → Prop) (hR : ∀ w', Mod [] w w' → R (.returned (stV (encR r))) w') : Calls Tryz.prog 29 #[rcV r sm st] w R := by
  have hmy := rMay26_cps r sm st
  have htxc := rTxn12_cps r.tx
  have hmbc := rMembers12_cps r.tx sm r.mbs
  have hrow := rRow_cps st r.tags
  have hr' := fun w' (h : Mod [] w w') => hr.mod h
  have hno : mayR r = false → encR r = ([], 2) := fun h => by unfold encR; rw [h]; rfl
  have hyes := @enc26 r
  have hnot := @enc26_no r
  have hll := rcL_len r
  have hms := @may_is r
  have hL : rcL r = [(dataS RW).1, (txnS r.tx).1, (numS r.aud).1, (mbrsS r.tx.1 r.mbs).1, (madeS (114 :: numL r.tags.length) r.tags).1] := rfl
  obtain ⟨haud, hml, hmd, hmr, htl, htd, htr⟩ := hr
  generalize encR r = E at *
  generalize rcL r = L at *
  generalize mayR r = C at *
  obtain ⟨⟨a, b, c⟩, aud, mbs, tags⟩ := r
  obtain ⟨pm, cm, rfl⟩ := hmr.slice
  obtain ⟨pt, ct, rfl⟩ := htr.slice
  unfold txV at htxc hmbc
  unfold rcV rcC at hmy ⊢
  simp only at haud hml hmd hmr htl htd htr hmy htxc hmbc hrow hyes hnot hms hL ⊢
  refine calls_go 4000 okT Tryz.func29 rfl (rs := [.tmp 2, .tmp 3]) rfl Tryz.ntmps29 (args := [.agg #[.int .i64 a, .int .i64 b, .int .i64 c, .int .i64 aud, .slice pm mbs.length cm, .slice pt tags.length ct]]) ?_
  simp (maxSteps := 1000000) (disch := first | omega | (simp only [sizeAlloc, sizeDrew, sizeSet, sizePut] <;> omega) | fail) only [GS, TT_eq, TTl, Nat.reduceAdd, Nat.reduceMul, Nat.reduceSub, Nat.reduceDiv, Nat.reduceMod, Nat.reducePow, Nat.reduceEqDiff, ↓reduceIte, reduceCtorEq, Int.reduceToNat, Int.reduceAdd, Int.reduceSub, Int.reduceMul]
  generalize hW : w.alloc (.cells #[.int .i64 a, .int .i64 b, .int .i64 c, .int .i64 aud, .slice pm mbs.length cm, .slice pt tags.length ct] 28) = w1
  obtain ⟨hA, hM0⟩ := box6' hW
  clear hW
  generalize hn : w.heap.size = n at *
  refine ⟨fok33, hmy _ (hr' _ hM0) _ fun w2 hM2 => .inl ⟨_, rfl, hold_ops okT (rs := [.tmp 2, .tmp 3]) rfl ?_⟩⟩
  have hA2 := hM2.get hA (by simp)
  have hM02 := hM0.trans hM2 (by simp)
  cases C
  · rw [hno rfl] at hR
    simp (maxSteps := 1000000) (disch := first | omega | (simp only [sizeAlloc, sizeDrew, sizeSet, sizePut] <;> omega) | fail) only [GS, TT_eq, TTl, Nat.reduceAdd, Nat.reduceMul, Nat.reduceSub, Nat.reduceDiv, Nat.reduceMod, Nat.reducePow, Nat.reduceEqDiff, ↓reduceIte, reduceCtorEq, Int.reduceToNat, Int.reduceAdd, Int.reduceSub, Int.reduceMul]
    exact hR _ hM02
  replace hyes := hyes rfl
  replace hnot := hnot rfl
  replace hll := hll rfl
  replace hms := hms rfl
  clear hno hr' hmy
  simp (maxSteps := 1000000) (disch := first | omega | (simp only [sizeAlloc, sizeDrew, sizeSet, sizePut] <;> omega) | fail) only [GS, TT_eq, TTl, Nat.reduceAdd, Nat.reduceMul, Nat.reduceSub, Nat.reduceDiv, Nat.reduceMod, Nat.reducePow, Nat.reduceEqDiff, ↓reduceIte, reduceCtorEq, Int.reduceToNat, Int.reduceAdd, Int.reduceSub, Int.reduceMul]
  refine ⟨fok86, rData_cps RW (by unfold maxLen; decide) _ _ fun w3 hM3 => .inl ⟨_, rfl, hold_ops okT (rs := [.tmp 2, .tmp 3]) rfl ?_⟩⟩
  have hA3 := hM3.get hA2 (by simp)
  have hM03 := hM02.trans hM3 (by simp)
  have c3 := fun o => cellOf (o := o) hA3
  generalize dataS RW = Pd at *
  obtain ⟨dt, de⟩ := Pd
  unfold stV
  simp (maxSteps := 1000000) (disch := first | omega | (simp only [sizeAlloc, sizeDrew, sizeSet, sizePut] <;> omega) | fail) only [GS, TT_eq, TTl, Nat.reduceAdd, Nat.reduceMul, Nat.reduceSub, Nat.reduceDiv, Nat.reduceMod, Nat.reducePow, Nat.reduceEqDiff, ↓reduceIte, reduceCtorEq, Int.reduceToNat, Int.reduceAdd, Int.reduceSub, Int.reduceMul, c3]
  refine ⟨fok39, htxc _ _ fun w4 hM4 => .inl ⟨_, rfl, hold_ops okT (rs := [.tmp 2, .tmp 3]) rfl ?_⟩⟩
  have hA4 := hM4.get hA3 (by simp)
  have hM04 := hM03.trans hM4 (by simp)
  have c4 := fun o => cellOf (o := o) hA4
  generalize txnS (a, b, c) = Px at *
  obtain ⟨xt, xe⟩ := Px
  unfold stV
  simp (maxSteps := 1000000) (disch := first | omega | (simp only [sizeAlloc, sizeDrew, sizeSet, sizePut] <;> omega) | fail) only [GS, TT_eq, TTl, Nat.reduceAdd, Nat.reduceMul, Nat.reduceSub, Nat.reduceDiv, Nat.reduceMod, Nat.reducePow, Nat.reduceEqDiff, ↓reduceIte, reduceCtorEq, Int.reduceToNat, Int.reduceAdd, Int.reduceSub, Int.reduceMul, c4]
  refine ⟨fok102, rNumT_cps aud haud.1 haud.2 _ _ fun w5 hM5 => .inl ⟨_, rfl, hold_ops okT (rs := [.tmp 2, .tmp 3]) rfl ?_⟩⟩
  have hA5 := hM5.get hA4 (by simp)
  have hM05 := hM04.trans hM5 (by simp)
  have c5 := fun o => cellOf (o := o) hA5
  generalize numS aud = Pn at *
  obtain ⟨nt, ne⟩ := Pn
  unfold stV
  simp (maxSteps := 1000000) (disch := first | omega | (simp only [sizeAlloc, sizeDrew, sizeSet, sizePut] <;> omega) | fail) only [GS, TT_eq, TTl, Nat.reduceAdd, Nat.reduceMul, Nat.reduceSub, Nat.reduceDiv, Nat.reduceMod, Nat.reducePow, Nat.reduceEqDiff, ↓reduceIte, reduceCtorEq, Int.reduceToNat, Int.reduceAdd, Int.reduceSub, Int.reduceMul, c5]
  refine ⟨fok41, hmbc _ _ hml hmd (hmr.mod hM05 (by simp)) fun w6 hM6 => .inl ⟨_, rfl, hold_ops okT (rs := [.tmp 2, .tmp 3]) rfl ?_⟩⟩
  have hA6 := hM6.get hA5 (by simp)
  have hM06 := hM05.trans hM6 (by simp)
  have c6 := fun o => cellOf (o := o) hA6
  generalize mbrsS a mbs = Pm at *
  obtain ⟨mt, me⟩ := Pm
  unfold stV
  simp (maxSteps := 1000000) (disch := first | omega | (simp only [sizeAlloc, sizeDrew, sizeSet, sizePut] <;> omega) | fail) only [GS, TT_eq, TTl, Nat.reduceAdd, Nat.reduceMul, Nat.reduceSub, Nat.reduceDiv, Nat.reduceMod, Nat.reducePow, Nat.reduceEqDiff, ↓reduceIte, reduceCtorEq, Int.reduceToNat, Int.reduceAdd, Int.reduceSub, Int.reduceMul, c6]
  have htd6 : ∀ s ∈ tags, s.length ≤ 1000000 := fun s hs => by
    have h0 : checkS s = 0 := by
      have := hms.2.2.2.2
      unfold allS at this
      exact of_decide_eq_true (List.all_eq_true.1 this s hs)
    have := (check0 h0).2.2.1; omega
  refine ⟨fok89, hrow _ _ (by omega) htd6 (htr.mod hM06 (by simp)) fun w7 hM7 => .inl ⟨_, rfl, hold_ops okT (rs := [.tmp 2, .tmp 3]) rfl ?_⟩⟩
  have hM07 := hM06.trans hM7 (by simp)
  generalize madeS (114 :: numL tags.length) tags = Pt at *
  obtain ⟨tt, te⟩ := Pt
  unfold stV
  simp only at hyes hnot hL
  by_cases hme : me = 0
  rotate_left
  · rw [hnot (.inl hme)] at hR
    simp (maxSteps := 1000000) (disch := first | omega | (simp only [sizeAlloc, sizeDrew, sizeSet, sizePut] <;> omega) | fail) only [GS, TT_eq, TTl, Nat.reduceAdd, Nat.reduceMul, Nat.reduceSub, Nat.reduceDiv, Nat.reduceMod, Nat.reducePow, Nat.reduceEqDiff, ↓reduceIte, reduceCtorEq, Int.reduceToNat, Int.reduceAdd, Int.reduceSub, Int.reduceMul, hme]
    exact hR _ hM07
  by_cases hte : te = 0
  rotate_left
  · rw [hnot (.inr hte)] at hR
    simp (maxSteps := 1000000) (disch := first | omega | (simp only [sizeAlloc, sizeDrew, sizeSet, sizePut] <;> omega) | fail) only [GS, TT_eq, TTl, Nat.reduceAdd, Nat.reduceMul, Nat.reduceSub, Nat.reduceDiv, Nat.reduceMod, Nat.reducePow, Nat.reduceEqDiff, ↓reduceIte, reduceCtorEq, Int.reduceToNat, Int.reduceAdd, Int.reduceSub, Int.reduceMul, hme, hte]
    exact hR _ hM07
  simp (maxSteps := 1000000) (disch := first | omega | (simp only [sizeAlloc, sizeDrew, sizeSet, sizePut] <;> omega) | fail) only [GS, TT_eq, TTl, Nat.reduceAdd, Nat.reduceMul, Nat.reduceSub, Nat.reduceDiv, Nat.reduceMod, Nat.reducePow, Nat.reduceEqDiff, ↓reduceIte, reduceCtorEq, Int.reduceToNat, Int.reduceAdd, Int.reduceSub, Int.reduceMul, hme, hte]
  have hrd := Rd.lit (w := w7) (size := 1) (n := 5) (e := 9) (xs := [dt, xt, nt, mt, tt].map strV) rfl
  have hE := hyes hme hte
  rw [hL] at hll hE
  refine ⟨fok89, rRow_cps _ [dt, xt, nt, mt, tt] _ _ (by simp) hll hrd fun w8 hM8 => .inl ⟨_, rfl, hold_ops okT (rs := [.tmp 2, .tmp 3]) rfl ?_⟩⟩
  have hM08 := (hM07.alloc (.cells #[strV dt, strV xt, strV nt, strV mt, strV tt] 9)).trans hM8 (by simp)
  rw [show ([dt, xt, nt, mt, tt] : List (List UInt8)).length = 5 from rfl, ← hE]
  unfold stV at hR ⊢
  obtain ⟨pt, pe⟩ := E
  simp only at hR ⊢
  simp (maxSteps := 1000000) (disch := first | omega | (simp only [sizeAlloc, sizeDrew, sizeSet, sizePut] <;> omega) | fail) only [GS, TT_eq, TTl, Nat.reduceAdd, Nat.reduceMul, Nat.reduceSub, Nat.reduceDiv, Nat.reduceMod, Nat.reducePow, Nat.reduceEqDiff, ↓reduceIte, reduceCtorEq, Int.reduceToNat, Int.reduceAdd, Int.reduceSub, Int.reduceMul]
  exact hR _ hM08
end Go.Proofs.YtpcilobbohokcaaGreat
