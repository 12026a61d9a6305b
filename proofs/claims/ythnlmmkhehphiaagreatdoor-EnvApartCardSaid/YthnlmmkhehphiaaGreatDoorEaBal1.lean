/-
  ballot.Body; the reference's Body (plain, and walks).
-/
import Derived.Test.YthnlmmkhehphiaaGreatDoorEaSui2
import Derived.Test.YthnlmmkhehphiaaGreatDoorEaPar3
import Derived.Test.YthnlmmkhehphiaaGreatDoorEaRefC
set_option linter.unusedSimpArgs false
set_option linter.unusedVariables false
set_option maxRecDepth 20000
namespace Go.Proofs.YthnlmmkhehphiaaGreatDoor
open Go Go.Wk Go.RowKit
attribute [local irreducible] go Hold
open Go.Lib
def BW : List UInt8 := [98, 97, 108, 108, 111, 116]
def bdL (x : Tx) (aud : Int) (mbs : List Mb) (org : Int) : List (List UInt8) := [(dataS BW).1, (txnS x).1, (numS aud).1, (mbrsS x.1 mbs).1, (numS org).1]
/-- The body of a ballot. -/
def bodyS (x : Tx) (aud : Int) (mbs : List Mb) (org : Int) : List UInt8 × Int := if balB x aud mbs org = true then (if (mbrsS x.1 mbs).2 = 0 then madeS (114 :: numL 5) (bdL x aud mbs org) else ([], 5)) else ([], 2)
theorem mbrs_5 {c : Int} {l : List Mb} (h : mbB c l = true) : (mbrsS c l).2 = 0 ∨ (mbrsS c l).2 = 5 := by
  unfold mbrsS
  rw [if_pos h]
  cases hr : mbRows l with
  | none => exact .inr rfl
  | some r =>
    have hal : allS r = true := by
      unfold allS
      rw [List.all_eq_true]
      intro s hs
      exact decide_eq_true ((mbRows_len l r hr).2 s hs)
    simp only
    unfold madeS
    rw [if_pos hal]
    split
    · exact .inl rfl
    · exact .inr rfl
theorem bal_is {x : Tx} {aud : Int} {mbs : List Mb} {org : Int} (h : balB x aud mbs org = true) : txB x = true ∧ (0 ≤ aud ∧ aud < 8) ∧ mbB x.1 mbs = true ∧ (0 ≤ org ∧ org < 8) := by
  unfold balB at h
  simp only [Bool.and_eq_true] at h
  refine ⟨h.1.1.1, of_decide_eq_true h.1.1.2, h.1.2, ?_⟩
  obtain ⟨m, hm, he⟩ := List.any_eq_true.1 h.2
  have hB := h.1.2
  unfold mbB at hB
  rw [Bool.and_eq_true] at hB
  have h2 := mbs_el hB.1 m hm
  have h3 := of_decide_eq_true he
  omega
theorem bnS_len (v : Int) : (numS v).1.length ≤ 1000000 := by
  unfold numS
  split
  · simp
  · have := dataS_len (numL v.toNat); omega
theorem bd_len (x : Tx) (aud : Int) (mbs : List Mb) (org : Int) : ∀ s ∈ bdL x aud mbs org, s.length ≤ 1000000 := by
  unfold bdL
  intro s hs
  simp only [List.mem_cons, List.not_mem_nil, or_false] at hs
  rcases hs with rfl | rfl | rfl | rfl | rfl
  · have := dataS_len BW; omega
  · have := txn_len x; omega
  · exact bnS_len aud
  · have := mbrs_len x.1 mbs; omega
  · exact bnS_len org
set_option maxRecDepth 20000 in
set_option maxHeartbeats 2000000 in
theorem bnum_cps (v : Int) (h1 : -9223372036854775808 ≤ v) (h2 : v ≤ 9223372036854775807) (w : World) (R : Ending → World → Prop) (hR : ∀ w', Mod [] w w' → R (.returned (.string ⟨(numS v).1.toArray⟩)) w') :
    Calls Tryz.prog 66 #[.int .i64 v] w R := by
  refine calls_go 4000 okT Tryz.func66 rfl (rs := [.tmp 2]) rfl Tryz.ntmps66 (args := [.int .i64 v]) ?_
  simp (maxSteps := 1000000) (disch := first | omega | (simp only [sizeAlloc, sizeDrew, sizeSet, sizePut] <;> omega) | fail) only [GS, TT_eq, TTl, Nat.reduceAdd, Nat.reduceMul, Nat.reduceSub, Nat.reduceDiv, Nat.reduceMod, Nat.reducePow, Nat.reduceEqDiff, ↓reduceIte, reduceCtorEq, Int.reduceToNat, Int.reduceAdd, Int.reduceSub, Int.reduceMul]
  refine ⟨fok98, tNum_cps v h1 h2 _ _ fun w1 hM => .inl ⟨_, rfl, hold_ops okT (rs := [.tmp 2]) rfl ?_⟩⟩
  generalize numS v = N at *
  obtain ⟨t, e⟩ := N
  unfold stV
  simp (maxSteps := 1000000) (disch := first | omega | (simp only [sizeAlloc, sizeDrew, sizeSet, sizePut] <;> omega) | fail) only [GS, TT_eq, TTl, Nat.reduceAdd, Nat.reduceMul, Nat.reduceSub, Nat.reduceDiv, Nat.reduceMod, Nat.reducePow, Nat.reduceEqDiff, ↓reduceIte, reduceCtorEq, Int.reduceToNat, Int.reduceAdd, Int.reduceSub, Int.reduceMul]
  exact hR _ hM
set_option maxRecDepth 20000 in
set_option maxHeartbeats 16000000 in
theorem bBody_cps (x : Tx) (aud : Int) (ms : Value) (mbs : List Mb) (org : Int) (w : World) (hl : mbs.length ≤ 1000000) (hd : ∀ m ∈ mbs, m.2.length ≤ maxLen) (ha : Rd w 2 ms mbs.length (mbs.flatMap mbC)) (R : Ending → World → Prop) (hR : ∀ w', Mod [] w w' → R (.returned (stV (bodyS x aud mbs org))) w') :
    Calls Tryz.prog 29 #[balV x aud ms org] w R := by
  have hCk := fun w h => balCheck_cps x aud ms mbs org w hl hd h
  have htx := wTxn_cps x
  have hmbc := wMembers_cps x ms mbs
  have os : ms.oneCell' = true := by obtain ⟨a, c, e⟩ := ha.slice; rw [e]; rfl
  have hbi := @bal_is x aud mbs org
  have h5 := @mbrs_5 x.1 mbs
  have hbl := bd_len x aud mbs org
  unfold bodyS at hR
  have hL : bdL x aud mbs org = [(dataS BW).1, (txnS x).1, (numS aud).1, (mbrsS x.1 mbs).1, (numS org).1] := rfl
  generalize bdL x aud mbs org = L at *
  generalize balB x aud mbs org = B at *
  obtain ⟨a, b, c⟩ := x
  unfold balV at hCk ⊢
  unfold txV at htx hmbc
  simp only at hCk htx hmbc hbi h5 hL hR ⊢
  refine calls_go 4000 okT Tryz.func29 rfl (rs := [.tmp 2, .tmp 3]) rfl Tryz.ntmps29 (args := [.agg #[.int .i64 a, .int .i64 b, .int .i64 c, .int .i64 aud, ms, .int .i64 org]]) ?_
  simp (maxSteps := 1000000) (disch := first | omega | (simp only [sizeAlloc, sizeDrew, sizeSet, sizePut] <;> omega) | fail) only [GS, TT_eq, TTl, Nat.reduceAdd, Nat.reduceMul, Nat.reduceSub, Nat.reduceDiv, Nat.reduceMod, Nat.reducePow, Nat.reduceEqDiff, ↓reduceIte, reduceCtorEq, Int.reduceToNat, Int.reduceAdd, Int.reduceSub, Int.reduceMul, os, cellsL_one os]
  generalize hW : w.alloc (.cells #[.int .i64 a, .int .i64 b, .int .i64 c, .int .i64 aud, ms, .int .i64 org] 26) = w1
  obtain ⟨hA, hM0⟩ := bx6 hW
  clear hW
  generalize hn : w.heap.size = n at *
  refine ⟨fok31, hCk _ (ha.mod hM0 (by simp)) _ fun w2 hM2 => .inl ⟨_, rfl, hold_ops okT (rs := [.tmp 2, .tmp 3]) rfl ?_⟩⟩
  have hA2 := hM2.get hA (by simp)
  have hM02 := hM0.trans hM2 (by simp)
  cases B
  · simp only [Bool.false_eq_true, if_false] at hR ⊢
    unfold stV at hR
    simp (maxSteps := 1000000) (disch := first | omega | (simp only [sizeAlloc, sizeDrew, sizeSet, sizePut] <;> omega) | fail) only [GS, TT_eq, TTl, Nat.reduceAdd, Nat.reduceMul, Nat.reduceSub, Nat.reduceDiv, Nat.reduceMod, Nat.reducePow, Nat.reduceEqDiff, ↓reduceIte, reduceCtorEq, Int.reduceToNat, Int.reduceAdd, Int.reduceSub, Int.reduceMul]
    exact hR _ hM02
  simp only [if_true] at hR ⊢
  obtain ⟨-, hau, hmm, hog⟩ := hbi rfl
  replace h5 := h5 hmm
  simp (maxSteps := 1000000) (disch := first | omega | (simp only [sizeAlloc, sizeDrew, sizeSet, sizePut] <;> omega) | fail) only [GS, TT_eq, TTl, Nat.reduceAdd, Nat.reduceMul, Nat.reduceSub, Nat.reduceDiv, Nat.reduceMod, Nat.reducePow, Nat.reduceEqDiff, ↓reduceIte, reduceCtorEq, Int.reduceToNat, Int.reduceAdd, Int.reduceSub, Int.reduceMul]
  refine ⟨fok56, tData_cps BW (by unfold maxLen; decide) _ _ fun w3 hM3 => .inl ⟨_, rfl, hold_ops okT (rs := [.tmp 2, .tmp 3]) rfl ?_⟩⟩
  have hA3 := hM3.get hA2 (by simp)
  have hM03 := hM02.trans hM3 (by simp)
  have c3 := fun o => cellOf (o := o) hA3
  generalize dataS BW = Pd at *
  obtain ⟨dt, de⟩ := Pd
  unfold stV
  simp (maxSteps := 1000000) (disch := first | omega | (simp only [sizeAlloc, sizeDrew, sizeSet, sizePut] <;> omega) | fail) only [GS, TT_eq, TTl, Nat.reduceAdd, Nat.reduceMul, Nat.reduceSub, Nat.reduceDiv, Nat.reduceMod, Nat.reducePow, Nat.reduceEqDiff, ↓reduceIte, reduceCtorEq, Int.reduceToNat, Int.reduceAdd, Int.reduceSub, Int.reduceMul, c3]
  refine ⟨fok64, htx _ _ fun w4 hM4 => .inl ⟨_, rfl, hold_ops okT (rs := [.tmp 2, .tmp 3]) rfl ?_⟩⟩
  have hA4 := hM4.get hA3 (by simp)
  have hM04 := hM03.trans hM4 (by simp)
  have c4 := fun o => cellOf (o := o) hA4
  generalize txnS (a, b, c) = Px at *
  obtain ⟨xt, xe⟩ := Px
  unfold stV
  simp (maxSteps := 1000000) (disch := first | omega | (simp only [sizeAlloc, sizeDrew, sizeSet, sizePut] <;> omega) | fail) only [GS, TT_eq, TTl, Nat.reduceAdd, Nat.reduceMul, Nat.reduceSub, Nat.reduceDiv, Nat.reduceMod, Nat.reducePow, Nat.reduceEqDiff, ↓reduceIte, reduceCtorEq, Int.reduceToNat, Int.reduceAdd, Int.reduceSub, Int.reduceMul, c4]
  refine ⟨fok65, hmbc _ _ hl hd (ha.mod hM04 (by simp)) fun w5 hM5 => .inl ⟨_, rfl, hold_ops okT (rs := [.tmp 2, .tmp 3]) rfl ?_⟩⟩
  have hA5 := hM5.get hA4 (by simp)
  have hM05 := hM04.trans hM5 (by simp)
  have c5 := fun o => cellOf (o := o) hA5
  generalize mbrsS a mbs = Pm at *
  obtain ⟨mt, me⟩ := Pm
  unfold stV
  simp only at h5 hL hR
  by_cases hme : me = 0
  rotate_left
  · rw [if_neg hme] at hR
    have h55 : me = 5 := h5.resolve_left hme
    subst h55
    unfold stV at hR
    simp (maxSteps := 1000000) (disch := first | omega | (simp only [sizeAlloc, sizeDrew, sizeSet, sizePut] <;> omega) | fail) only [GS, TT_eq, TTl, Nat.reduceAdd, Nat.reduceMul, Nat.reduceSub, Nat.reduceDiv, Nat.reduceMod, Nat.reducePow, Nat.reduceEqDiff, ↓reduceIte, reduceCtorEq, Int.reduceToNat, Int.reduceAdd, Int.reduceSub, Int.reduceMul]
    exact hR _ hM05
  rw [if_pos hme] at hR
  subst hme
  simp (maxSteps := 1000000) (disch := first | omega | (simp only [sizeAlloc, sizeDrew, sizeSet, sizePut] <;> omega) | fail) only [GS, TT_eq, TTl, Nat.reduceAdd, Nat.reduceMul, Nat.reduceSub, Nat.reduceDiv, Nat.reduceMod, Nat.reducePow, Nat.reduceEqDiff, ↓reduceIte, reduceCtorEq, Int.reduceToNat, Int.reduceAdd, Int.reduceSub, Int.reduceMul]
  refine hold_draw okT (rs := [.tmp 2, .tmp 3]) rfl [0, 0, 0, 4, 12, 0, 0, 64, 220, 511, 1023, 2047, 2047, 8191, 16383] [0, 1, 2, 3, 5, 6, 7, 4, 8, 9, 10, 11, 12, 13, 14] (by kernel_rfl) (by kernel_rfl) ?_
  have hM56 := (Mod.refl [] w5).drewN 1
  generalize w5.drewN 1 = w6 at *
  have hA6 := hM56.get hA5 (by simp)
  have hM06 := hM05.trans hM56 (by simp)
  have c6 := fun o => cellOf (o := o) hA6
  simp (maxSteps := 1000000) (disch := first | omega | (simp only [sizeAlloc, sizeDrew, sizeSet, sizePut] <;> omega) | fail) only [GS, TT_eq, TTl, Nat.reduceAdd, Nat.reduceMul, Nat.reduceSub, Nat.reduceDiv, Nat.reduceMod, Nat.reducePow, Nat.reduceEqDiff, ↓reduceIte, reduceCtorEq, Int.reduceToNat, Int.reduceAdd, Int.reduceSub, Int.reduceMul, c6]
  refine ⟨fok66, bnum_cps aud (by omega) (by omega) _ _ fun w7 hM7 => .inl ⟨_, rfl, ?_⟩⟩
  have hA7 := hM7.get hA6 (by simp)
  have c7 := fun o => cellOf (o := o) hA7
  first | refine hold_dops okT (rs := [.tmp 2, .tmp 3]) rfl ?_ | refine ⟨(by repeat' (first | exact c7 _ | apply And.intro)), hold_dops okT (rs := [.tmp 2, .tmp 3]) rfl ?_⟩
  have hM07 := hM06.trans hM7 (by simp)
  simp (maxSteps := 1000000) (disch := first | omega | (simp only [sizeAlloc, sizeDrew, sizeSet, sizePut] <;> omega) | fail) only [GS, TT_eq, TTl, Nat.reduceAdd, Nat.reduceMul, Nat.reduceSub, Nat.reduceDiv, Nat.reduceMod, Nat.reducePow, Nat.reduceEqDiff, ↓reduceIte, reduceCtorEq, Int.reduceToNat, Int.reduceAdd, Int.reduceSub, Int.reduceMul, c7]
  refine ⟨fok66, bnum_cps org (by omega) (by omega) _ _ fun w8 hM8 => .inl ⟨_, rfl, ?_⟩⟩
  have hA8 := hM8.get hA7 (by simp)
  have c8 := fun o => cellOf (o := o) hA8
  first | refine hold_dops okT (rs := [.tmp 2, .tmp 3]) rfl ?_ | refine ⟨(by repeat' (first | exact c8 _ | apply And.intro)), hold_dops okT (rs := [.tmp 2, .tmp 3]) rfl ?_⟩
  have hM08 := hM07.trans hM8 (by simp)
  generalize numS aud = Na at *
  generalize numS org = No at *
  obtain ⟨nt, ne⟩ := Na
  obtain ⟨ot, oe⟩ := No
  simp only at hL
  simp (maxSteps := 1000000) (disch := first | omega | (simp only [sizeAlloc, sizeDrew, sizeSet, sizePut] <;> omega) | fail) only [GS, TT_eq, TTl, Nat.reduceAdd, Nat.reduceMul, Nat.reduceSub, Nat.reduceDiv, Nat.reduceMod, Nat.reducePow, Nat.reduceEqDiff, ↓reduceIte, reduceCtorEq, Int.reduceToNat, Int.reduceAdd, Int.reduceSub, Int.reduceMul, c8]
  have hrd := Rd.lit (w := w8) (size := 1) (n := 5) (e := 9) (xs := [dt, xt, nt, mt, ot].map strV) rfl
  rw [hL] at hbl hR
  refine ⟨fok48, tRow_cps _ [dt, xt, nt, mt, ot] _ _ (by simp) hbl hrd fun w9 hM9 => .inl ⟨_, rfl, ?_⟩⟩
  have hM09 := (hM08.alloc (.cells #[strV dt, strV xt, strV nt, strV mt, strV ot] 9)).trans hM9 (by simp)
  first | refine hold_dops okT (rs := [.tmp 2, .tmp 3]) rfl ?_ | refine ⟨trivial, hold_dops okT (rs := [.tmp 2, .tmp 3]) rfl ?_⟩
  unfold stV at hR ⊢
  simp (maxSteps := 1000000) (disch := first | omega | (simp only [sizeAlloc, sizeDrew, sizeSet, sizePut] <;> omega) | fail) only [GS, TT_eq, TTl, Nat.reduceAdd, Nat.reduceMul, Nat.reduceSub, Nat.reduceDiv, Nat.reduceMod, Nat.reducePow, Nat.reduceEqDiff, ↓reduceIte, reduceCtorEq, Int.reduceToNat, Int.reduceAdd, Int.reduceSub, Int.reduceMul]
  exact hR _ hM09
end Go.Proofs.YthnlmmkhehphiaaGreatDoor
