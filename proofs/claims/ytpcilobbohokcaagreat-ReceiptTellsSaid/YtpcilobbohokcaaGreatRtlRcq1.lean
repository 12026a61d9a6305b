/-
  The reference's May and Encode of a receipt (walks).
-/
import Derived.Test.YtpcilobbohokcaaGreatRtlRefI
import Derived.Test.YtpcilobbohokcaaGreatRtlC2
set_option linter.unusedSimpArgs false
set_option linter.unusedVariables false
set_option maxRecDepth 20000
namespace Go.Proofs.YtpcilobbohokcaaGreat
open Go Go.Wk Go.RowKit
attribute [local irreducible] go Hold
open Go.Lib
theorem box6' {w W : World} {t : Nat} {a0 a1 a2 a3 a4 a5 : Value} (h : w.alloc (.cells #[a0, a1, a2, a3, a4, a5] t) = W) : W.heap[w.heap.size]? = some (.cells #[a0, a1, a2, a3, a4, a5] t (0, 0)) ∧ Mod [] w W := by
  subst h
  exact ⟨heapNew, (Mod.refl [] w).alloc _⟩
set_option maxRecDepth 20000 in
set_option maxHeartbeats 8000000 in
theorem rMay26_cps (r : Rcp) (sm st : Value) (w : World) (hr : RcpIn w r sm st) (R : Ending → World → Prop) (hR : ∀ w', Mod [] w w' → R (.returned (.bool (mayR r))) w') : Calls Tryz.prog 33 #[rcV r sm st] w R := by
  obtain ⟨haud, hml, hmd, hmr, htl, htd, htr⟩ := hr
  have hMT := rMayTxn_cps r.tx
  have hMM := rMayMembers_cps r.tx sm r.mbs
  unfold mayR at hR
  obtain ⟨⟨a, b, c⟩, aud, mbs, tags⟩ := r
  obtain ⟨pm, cm, rfl⟩ := hmr.slice
  obtain ⟨pt, ct, rfl⟩ := htr.slice
  unfold txV at hMT hMM
  unfold rcV rcC
  simp only at hR haud hml hmd hmr htl htd htr hMT hMM ⊢
  refine calls_go 4000 okT Tryz.func33 rfl (rs := [.tmp 2]) rfl Tryz.ntmps33 (args := [.agg #[.int .i64 a, .int .i64 b, .int .i64 c, .int .i64 aud, .slice pm mbs.length cm, .slice pt tags.length ct]]) ?_
  simp (maxSteps := 1000000) (disch := first | omega | (simp only [sizeAlloc, sizeDrew, sizeSet, sizePut] <;> omega) | fail) only [GS, TT_eq, TTl, Nat.reduceAdd, Nat.reduceMul, Nat.reduceSub, Nat.reduceDiv, Nat.reduceMod, Nat.reducePow, Nat.reduceEqDiff, ↓reduceIte, reduceCtorEq, Int.reduceToNat, Int.reduceAdd, Int.reduceSub, Int.reduceMul]
  generalize hW : w.alloc (.cells #[.int .i64 a, .int .i64 b, .int .i64 c, .int .i64 aud, .slice pm mbs.length cm, .slice pt tags.length ct] 28) = w1
  obtain ⟨hA, hM0⟩ := box6' hW
  clear hW
  generalize hn : w.heap.size = n at *
  refine ⟨fok43, hMT _ _ fun w2 hM2 => .inl ⟨_, rfl, hold_ops okT (rs := [.tmp 2]) rfl ?_⟩⟩
  have hA2 := hM2.get hA (by simp)
  have hM02 := hM0.trans hM2 (by simp)
  have c2 := fun o => cellOf (o := o) hA2
  cases htx : txB (a, b, c)
  · rw [htx] at hR
    simp only [Bool.false_and] at hR
    simp (maxSteps := 1000000) (disch := first | omega | (simp only [sizeAlloc, sizeDrew, sizeSet, sizePut] <;> omega) | fail) only [GS, TT_eq, TTl, Nat.reduceAdd, Nat.reduceMul, Nat.reduceSub, Nat.reduceDiv, Nat.reduceMod, Nat.reducePow, Nat.reduceEqDiff, ↓reduceIte, reduceCtorEq, Int.reduceToNat, Int.reduceAdd, Int.reduceSub, Int.reduceMul]
    exact hR _ hM02
  rw [htx, Bool.true_and] at hR
  simp (maxSteps := 1000000) (disch := first | omega | (simp only [sizeAlloc, sizeDrew, sizeSet, sizePut] <;> omega) | fail) only [GS, TT_eq, TTl, Nat.reduceAdd, Nat.reduceMul, Nat.reduceSub, Nat.reduceDiv, Nat.reduceMod, Nat.reducePow, Nat.reduceEqDiff, ↓reduceIte, reduceCtorEq, Int.reduceToNat, Int.reduceAdd, Int.reduceSub, Int.reduceMul, c2]
  refine ⟨fok92, rOrg_cps aud _ _ (.inl ⟨_, rfl, hold_ops okT (rs := [.tmp 2]) rfl ?_⟩)⟩
  cases hog : orgB aud
  · rw [hog] at hR
    simp only [Bool.false_and] at hR
    simp (maxSteps := 1000000) (disch := first | omega | (simp only [sizeAlloc, sizeDrew, sizeSet, sizePut] <;> omega) | fail) only [GS, TT_eq, TTl, Nat.reduceAdd, Nat.reduceMul, Nat.reduceSub, Nat.reduceDiv, Nat.reduceMod, Nat.reducePow, Nat.reduceEqDiff, ↓reduceIte, reduceCtorEq, Int.reduceToNat, Int.reduceAdd, Int.reduceSub, Int.reduceMul]
    exact hR _ hM02
  rw [hog, Bool.true_and] at hR
  simp (maxSteps := 1000000) (disch := first | omega | (simp only [sizeAlloc, sizeDrew, sizeSet, sizePut] <;> omega) | fail) only [GS, TT_eq, TTl, Nat.reduceAdd, Nat.reduceMul, Nat.reduceSub, Nat.reduceDiv, Nat.reduceMod, Nat.reducePow, Nat.reduceEqDiff, ↓reduceIte, reduceCtorEq, Int.reduceToNat, Int.reduceAdd, Int.reduceSub, Int.reduceMul, c2]
  refine ⟨fok45, hMM _ _ (by omega) hmd (hmr.mod hM02 (by simp)) fun w3 hM3 => .inl ⟨_, rfl, hold_ops okT (rs := [.tmp 2]) rfl ?_⟩⟩
  have hA3 := hM3.get hA2 (by simp)
  have hM03 := hM02.trans hM3 (by simp)
  have c3 := fun o => cellOf (o := o) hA3
  cases hmm : mbB a mbs
  · rw [hmm] at hR
    simp only [Bool.false_and] at hR
    simp (maxSteps := 1000000) (disch := first | omega | (simp only [sizeAlloc, sizeDrew, sizeSet, sizePut] <;> omega) | fail) only [GS, TT_eq, TTl, Nat.reduceAdd, Nat.reduceMul, Nat.reduceSub, Nat.reduceDiv, Nat.reduceMod, Nat.reducePow, Nat.reduceEqDiff, ↓reduceIte, reduceCtorEq, Int.reduceToNat, Int.reduceAdd, Int.reduceSub, Int.reduceMul]
    exact hR _ hM03
  rw [hmm, Bool.true_and] at hR
  by_cases hle : ((tags.length : Nat) : Int) = ((mbs.length : Nat) : Int)
  rotate_left
  · rw [decide_eq_false (show ¬ tags.length = mbs.length by omega), Bool.false_and] at hR
    simp (maxSteps := 1000000) (disch := first | omega | (simp only [sizeAlloc, sizeDrew, sizeSet, sizePut] <;> omega) | fail) only [GS, TT_eq, TTl, Nat.reduceAdd, Nat.reduceMul, Nat.reduceSub, Nat.reduceDiv, Nat.reduceMod, Nat.reducePow, Nat.reduceEqDiff, ↓reduceIte, reduceCtorEq, Int.reduceToNat, Int.reduceAdd, Int.reduceSub, Int.reduceMul, c3, hle]
    exact hR _ hM03
  rw [decide_eq_true (show tags.length = mbs.length by omega), Bool.true_and] at hR
  have hle' : decide (((tags.length : Nat) : Int) = ((mbs.length : Nat) : Int)) = true := decide_eq_true hle
  simp (maxSteps := 1000000) (disch := first | omega | (simp only [sizeAlloc, sizeDrew, sizeSet, sizePut] <;> omega) | fail) only [GS, TT_eq, TTl, Nat.reduceAdd, Nat.reduceMul, Nat.reduceSub, Nat.reduceDiv, Nat.reduceMod, Nat.reducePow, Nat.reduceEqDiff, ↓reduceIte, reduceCtorEq, Int.reduceToNat, Int.reduceAdd, Int.reduceSub, Int.reduceMul, c3, hle']
  refine hold_loop okT (rs := [.tmp 2]) rfl [3] [2, 31, 32, 33, 34, 35, 36, 37, 38, 39, 40, 41, 42, 43, 44] (fun vs w' => ∃ j : Nat, vs = [.int .i64 j] ∧ j ≤ tags.length ∧ (∀ t ∈ tags.take j, checkS t = 0) ∧ Mod [] w3 w') (fun vs _ => match vs with | [.int _ i] => tags.length - i.toNat | _ => 0) (by kernel_rfl) ⟨0, rfl, by omega, by simp, Mod.refl [] w3⟩ ?_
  rintro vs w5 J ⟨j, rfl, hj, hjn, hM5⟩
  have hA5 := hM5.get hA3 (by simp)
  have hM05 := hM03.trans hM5 (by simp)
  have c5 := fun o => cellOf (o := o) hA5
  have htr5 := htr.mod hM05 (by simp)
  by_cases hlt : j < tags.length
  · obtain ⟨b1, o1, c1, e1, _, g1⟩ := htr5.at (by omega) (by omega)
    have f1 : w5.cell? ⟨b1, o1 + j, none⟩ = some (.string ⟨(tags[j]).toArray⟩) := g1 j _ (getS hlt)
    rw [Value.slice.injEq] at e1
    obtain ⟨rfl, -, -⟩ := e1
    have htk := List.take_succ_eq_append_getElem hlt
    have hmem := List.getElem_mem hlt
    have hdl := htd _ hmem
    generalize tags[j] = t at *
    simp (maxSteps := 1000000) (disch := first | omega | (simp only [sizeAlloc, sizeDrew, sizeSet, sizePut] <;> omega) | fail) only [GS, TT_eq, TTl, Nat.reduceAdd, Nat.reduceMul, Nat.reduceSub, Nat.reduceDiv, Nat.reduceMod, Nat.reducePow, Nat.reduceEqDiff, ↓reduceIte, reduceCtorEq, Int.reduceToNat, Int.reduceAdd, Int.reduceSub, Int.reduceMul, c5, f1]
    refine ⟨fok93, rMay_cps t hdl _ _ fun w6 hM6 => .inl ⟨_, rfl, hold_ops okT (rs := [.tmp 2]) rfl ?_⟩⟩
    have hM06 := hM05.trans hM6 (by simp)
    by_cases hc : checkS t = 0
    · rw [decide_eq_true hc]
      simp (maxSteps := 1000000) (disch := first | omega | (simp only [sizeAlloc, sizeDrew, sizeSet, sizePut] <;> omega) | fail) only [GS, TT_eq, TTl, Nat.reduceAdd, Nat.reduceMul, Nat.reduceSub, Nat.reduceDiv, Nat.reduceMod, Nat.reducePow, Nat.reduceEqDiff, ↓reduceIte, reduceCtorEq, Int.reduceToNat, Int.reduceAdd, Int.reduceSub, Int.reduceMul]
      refine ⟨⟨j + 1, rfl, by omega, ?_, hM5.trans hM6 (by simp)⟩, by omega⟩
      rw [htk]
      intro s hs
      rcases List.mem_append.1 hs with hs | hs
      · exact hjn s hs
      · rw [List.mem_singleton.1 hs]; exact hc
    · rw [decide_eq_false hc]
      have : allS tags = false := by
        unfold allS
        rw [List.all_eq_false]
        exact ⟨t, hmem, by simp [hc]⟩
      rw [this] at hR
      simp (maxSteps := 1000000) (disch := first | omega | (simp only [sizeAlloc, sizeDrew, sizeSet, sizePut] <;> omega) | fail) only [GS, TT_eq, TTl, Nat.reduceAdd, Nat.reduceMul, Nat.reduceSub, Nat.reduceDiv, Nat.reduceMod, Nat.reducePow, Nat.reduceEqDiff, ↓reduceIte, reduceCtorEq, Int.reduceToNat, Int.reduceAdd, Int.reduceSub, Int.reduceMul]
      exact hR _ hM06
  · have e : j = tags.length := by omega
    subst e
    rw [List.take_length] at hjn
    have : allS tags = true := by unfold allS; rw [List.all_eq_true]; intro x hx; simp [hjn x hx]
    rw [this] at hR
    simp (maxSteps := 1000000) (disch := first | omega | (simp only [sizeAlloc, sizeDrew, sizeSet, sizePut] <;> omega) | fail) only [GS, TT_eq, TTl, Nat.reduceAdd, Nat.reduceMul, Nat.reduceSub, Nat.reduceDiv, Nat.reduceMod, Nat.reducePow, Nat.reduceEqDiff, ↓reduceIte, reduceCtorEq, Int.reduceToNat, Int.reduceAdd, Int.reduceSub, Int.reduceMul, c5]
    exact hR _ hM05
theorem num_ok {v : Int} (h : 0 ≤ v ∧ v < 8) : (numS v).2 = 0 ∧ (numS v).1 = numE v := by
  obtain ⟨n, rfl⟩ := Int.eq_ofNat_of_zero_le h.1
  have := numE_data n (by omega)
  unfold numS
  rw [if_neg (by omega), Int.toNat_natCast, this]
  exact ⟨rfl, rfl⟩
theorem enc26 {r : Rcp} (h : mayR r = true) (h1 : (mbrsS r.tx.1 r.mbs).2 = 0) (h2 : (madeS (114 :: numL r.tags.length) r.tags).2 = 0) : encR r = madeS (114 :: numL 5) (rcL r) := by
  obtain ⟨htx, hau, hmb, -, hal⟩ := may_is h
  have ht := txn_ok htx
  have hn := num_ok hau
  have hall : allS (rcL r) = true := by
    unfold allS rcL
    rw [List.all_eq_true]
    intro x hx
    simp only [List.mem_cons, List.not_mem_nil, or_false] at hx
    simp only [decide_eq_true_eq]
    rcases hx with rfl | rfl | rfl | rfl | rfl
    · exact kind_chk (data_of dRW).1 (by decide)
    · unfold txnS at ht ⊢
      rw [if_pos htx] at ht ⊢
      exact made_ok (Prod.ext rfl ht.1)
    · rw [hn.2]
      obtain ⟨n, hn'⟩ := Int.eq_ofNat_of_zero_le hau.1
      rw [hn']
      exact kind_chk (data_of (numE_data n (by omega))).1 (by decide)
    · unfold mbrsS at h1 ⊢
      rw [if_pos hmb] at h1 ⊢
      cases hr : mbRows r.mbs with
      | none => rw [hr] at h1; simp at h1
      | some q => rw [hr] at h1; exact made_ok (Prod.ext rfl h1)
    · exact made_ok (Prod.ext rfl h2)
  unfold encR encP
  rw [if_pos h]
  by_cases h5 : (madeS (114 :: numL 5) (rcL r)).2 = 0
  · rw [if_pos ⟨ht.1, hn.1, h1, h2, h5⟩]
    exact Prod.ext rfl h5.symm
  · rw [if_neg (fun g => h5 g.2.2.2.2)]
    unfold madeS at h5 ⊢
    rw [if_pos hall] at h5 ⊢
    split at h5
    · exact absurd rfl h5
    · rename_i hc; rw [if_neg hc]
theorem enc26_no {r : Rcp} (h : mayR r = true) (h1 : (mbrsS r.tx.1 r.mbs).2 ≠ 0 ∨ (madeS (114 :: numL r.tags.length) r.tags).2 ≠ 0) : encR r = ([], 5) := by
  unfold encR encP
  rw [if_pos h, if_neg]
  intro g
  rcases h1 with h1 | h1
  · exact h1 g.2.2.1
  · exact h1 g.2.2.2.1
end Go.Proofs.YtpcilobbohokcaaGreat
