/-
  ballot.Check, the reference's May of a ballot; part: the ballot of a transaction (walks). ballot.Body; the reference's Body (plain, and walks). The keys' names (walks): of the program, and of the reference. ballot: Digest, Tag, Fits, of a suite of terms (walks). ballot.Tag, ballot.Fits of a suite of either kind (walks). receipt: must, made, number, row; what is bad; Check (walks). A map's entry that is there already is written again. receipt.try (walk).
-/
import Derived.Test.YtdflchgfhmjhbaaGreatDoorQvZ6
import Derived.Test.YtdflchgfhmjhbaaGreatDoorQvZ3
import Derived.Test.YtdflchgfhmjhbaaGreatDoorQvTab
import Derived.Test.YtdflchgfhmjhbaaGreatDoorQvRd
import Derived.Test.YtdflchgfhmjhbaaGreatDoorQvZ4
import Derived.Test.YtdflchgfhmjhbaaGreatDoorQvMpr
set_option linter.unusedSimpArgs false
set_option linter.unusedVariables false
namespace Go.Proofs.YtdflchgfhmjhbaaGreatDoor
set_option maxHeartbeats 16000000
set_option maxRecDepth 20000
open Go Go.Wk Go.RowKit
attribute [local irreducible] go Hold
open Go.Lib
theorem bx6 {w W : World} {t : Nat} {a0 a1 a2 a3 a4 a5 : Value} (h : w.alloc (.cells #[a0, a1, a2, a3, a4, a5] t) = W) : W.heap[w.heap.size]? = some (.cells #[a0, a1, a2, a3, a4, a5] t (0, 0)) ∧ Mod [] w W := by
  subst h
  exact ⟨heapNew, (Mod.refl [] w).alloc _⟩
/-- Whether a ballot may be. -/
def balB (x : Tx) (aud : Int) (mbs : List Mb) (org : Int) : Bool := txB x && orgB aud && mbB x.1 mbs && mbs.any fun m => decide (m.1 = org)
def balV (x : Tx) (aud : Int) (ms : Value) (org : Int) : Value := .agg #[.int .i64 x.1, .int .i64 x.2.1, .int .i64 x.2.2, .int .i64 aud, ms, .int .i64 org]
theorem any_of {mbs : List Mb} {org : Int} {k : Nat} (hk : k < mbs.length) (h : mbs[k].1 = org) : (mbs.any fun m => decide (m.1 = org)) = true := List.any_eq_true.2 ⟨mbs[k], List.getElem_mem hk, decide_eq_true h⟩
theorem any_no {mbs : List Mb} {org : Int} (h : ∀ m ∈ mbs, m.1 ≠ org) : (mbs.any fun m => decide (m.1 = org)) = false := List.any_eq_false.2 fun m hm => by simpa using h m hm
theorem balCheck_cps (x : Tx) (aud : Int) (ms : Value) (mbs : List Mb) (org : Int) (w : World) (hl : mbs.length ≤ 1000000) (hd : ∀ m ∈ mbs, m.2.length ≤ maxLen) (ha : Rd w 2 ms mbs.length (mbs.flatMap mbC)) (R : Ending → World → Prop) (hR : ∀ w', Mod [] w w' → R (.returned (.int .i64 (if balB x aud mbs org = true then 0 else 2))) w') : Calls Tryz.prog 103 #[balV x aud ms org] w R := by
  have hMT := wMayTxn_cps x
  have hMM := wMayMembers_cps x ms mbs
  have os : ms.oneCell' = true := by obtain ⟨a, c, e⟩ := ha.slice; rw [e]; rfl
  unfold balB at hR
  obtain ⟨a, b, c⟩ := x
  unfold txV at hMT hMM
  unfold balV
  simp only at hR hMT hMM ⊢
  refine calls_go 4000 okT Tryz.func103 rfl (rs := [.tmp 2]) rfl Tryz.ntmps103 (args := [.agg #[.int .i64 a, .int .i64 b, .int .i64 c, .int .i64 aud, ms, .int .i64 org]]) ?_
  simp (maxSteps := 1000000) (disch := first | omega | (simp only [sizeAlloc, sizeDrew, sizeSet, sizePut] <;> omega) | fail) only [GS, TT_eq, TTl, Nat.reduceAdd, Nat.reduceMul, Nat.reduceSub, Nat.reduceDiv, Nat.reduceMod, Nat.reducePow, Nat.reduceEqDiff, ↓reduceIte, reduceCtorEq, Int.reduceToNat, Int.reduceAdd, Int.reduceSub, Int.reduceMul, os, cellsL_one os]
  generalize hW : w.alloc (.cells #[.int .i64 a, .int .i64 b, .int .i64 c, .int .i64 aud, ms, .int .i64 org] 45) = w1
  obtain ⟨hA, hM0⟩ := bx6 hW
  clear hW
  generalize hn : w.heap.size = n at *
  refine ⟨fok73, hMT _ _ fun w2 hM2 => .inl ⟨_, rfl, hold_ops okT (rs := [.tmp 2]) rfl ?_⟩⟩
  have hA2 := hM2.get hA (by simp)
  have hM02 := hM0.trans hM2 (by simp)
  have c2 := fun o => cellOf (o := o) hA2
  cases htx : txB (a, b, c)
  · rw [htx] at hR
    simp only [Bool.false_and, Bool.false_eq_true, if_false] at hR
    simp (maxSteps := 1000000) (disch := first | omega | (simp only [sizeAlloc, sizeDrew, sizeSet, sizePut] <;> omega) | fail) only [GS, TT_eq, TTl, Nat.reduceAdd, Nat.reduceMul, Nat.reduceSub, Nat.reduceDiv, Nat.reduceMod, Nat.reducePow, Nat.reduceEqDiff, ↓reduceIte, reduceCtorEq, Int.reduceToNat, Int.reduceAdd, Int.reduceSub, Int.reduceMul]
    exact hR _ hM02
  rw [htx, Bool.true_and] at hR
  simp (maxSteps := 1000000) (disch := first | omega | (simp only [sizeAlloc, sizeDrew, sizeSet, sizePut] <;> omega) | fail) only [GS, TT_eq, TTl, Nat.reduceAdd, Nat.reduceMul, Nat.reduceSub, Nat.reduceDiv, Nat.reduceMod, Nat.reducePow, Nat.reduceEqDiff, ↓reduceIte, reduceCtorEq, Int.reduceToNat, Int.reduceAdd, Int.reduceSub, Int.reduceMul, c2]
  by_cases h0 : aud < 0
  · rw [show orgB aud = false from decide_eq_false (fun h => by omega)] at hR
    simp only [Bool.false_and, Bool.false_eq_true, if_false] at hR
    simp (maxSteps := 1000000) (disch := first | omega | (simp only [sizeAlloc, sizeDrew, sizeSet, sizePut] <;> omega) | fail) only [GS, TT_eq, TTl, Nat.reduceAdd, Nat.reduceMul, Nat.reduceSub, Nat.reduceDiv, Nat.reduceMod, Nat.reducePow, Nat.reduceEqDiff, ↓reduceIte, reduceCtorEq, Int.reduceToNat, Int.reduceAdd, Int.reduceSub, Int.reduceMul, h0, c2]
    exact hR _ hM02
  by_cases h8 : 8 ≤ aud
  · rw [show orgB aud = false from decide_eq_false (fun h => by omega)] at hR
    simp only [Bool.false_and, Bool.false_eq_true, if_false] at hR
    simp (maxSteps := 1000000) (disch := first | omega | (simp only [sizeAlloc, sizeDrew, sizeSet, sizePut] <;> omega) | fail) only [GS, TT_eq, TTl, Nat.reduceAdd, Nat.reduceMul, Nat.reduceSub, Nat.reduceDiv, Nat.reduceMod, Nat.reducePow, Nat.reduceEqDiff, ↓reduceIte, reduceCtorEq, Int.reduceToNat, Int.reduceAdd, Int.reduceSub, Int.reduceMul, h0, h8, c2]
    exact hR _ hM02
  rw [show orgB aud = true from decide_eq_true (by omega), Bool.true_and] at hR
  simp (maxSteps := 1000000) (disch := first | omega | (simp only [sizeAlloc, sizeDrew, sizeSet, sizePut] <;> omega) | fail) only [GS, TT_eq, TTl, Nat.reduceAdd, Nat.reduceMul, Nat.reduceSub, Nat.reduceDiv, Nat.reduceMod, Nat.reducePow, Nat.reduceEqDiff, ↓reduceIte, reduceCtorEq, Int.reduceToNat, Int.reduceAdd, Int.reduceSub, Int.reduceMul, h0, h8, c2]
  refine ⟨fok74, hMM _ _ (by omega) hd (ha.mod hM02 (by simp)) fun w3 hM3 => .inl ⟨_, rfl, hold_ops okT (rs := [.tmp 2]) rfl ?_⟩⟩
  have hA3 := hM3.get hA2 (by simp)
  have hM03 := hM02.trans hM3 (by simp)
  have c3 := fun o => cellOf (o := o) hA3
  cases hmm : mbB a mbs
  · rw [hmm] at hR
    simp only [Bool.false_and, Bool.false_eq_true, if_false] at hR
    simp (maxSteps := 1000000) (disch := first | omega | (simp only [sizeAlloc, sizeDrew, sizeSet, sizePut] <;> omega) | fail) only [GS, TT_eq, TTl, Nat.reduceAdd, Nat.reduceMul, Nat.reduceSub, Nat.reduceDiv, Nat.reduceMod, Nat.reducePow, Nat.reduceEqDiff, ↓reduceIte, reduceCtorEq, Int.reduceToNat, Int.reduceAdd, Int.reduceSub, Int.reduceMul]
    exact hR _ hM03
  rw [hmm, Bool.true_and] at hR
  simp (maxSteps := 1000000) (disch := first | omega | (simp only [sizeAlloc, sizeDrew, sizeSet, sizePut] <;> omega) | fail) only [GS, TT_eq, TTl, Nat.reduceAdd, Nat.reduceMul, Nat.reduceSub, Nat.reduceDiv, Nat.reduceMod, Nat.reducePow, Nat.reduceEqDiff, ↓reduceIte, reduceCtorEq, Int.reduceToNat, Int.reduceAdd, Int.reduceSub, Int.reduceMul, c3]
  refine ⟨fok145, bFind_cps ms mbs org _ _ (by omega) (ha.mod hM03 (by simp)) (fun k w4 hk hko hM4 => .inl ⟨_, rfl, hold_ops okT (rs := [.tmp 2]) rfl ?_⟩) (fun hno w4 hM4 => .inl ⟨_, rfl, hold_ops okT (rs := [.tmp 2]) rfl ?_⟩)⟩
  · rw [any_of hk hko] at hR
    simp only [if_true] at hR
    have hk0 : ¬ ((k : Nat) : Int) < 0 := by omega
    have hk1 : (0 : Int) ≤ ((k : Nat) : Int) := by omega
    simp (maxSteps := 1000000) (disch := first | omega | (simp only [sizeAlloc, sizeDrew, sizeSet, sizePut] <;> omega) | fail) only [GS, TT_eq, TTl, Nat.reduceAdd, Nat.reduceMul, Nat.reduceSub, Nat.reduceDiv, Nat.reduceMod, Nat.reducePow, Nat.reduceEqDiff, ↓reduceIte, reduceCtorEq, Int.reduceToNat, Int.reduceAdd, Int.reduceSub, Int.reduceMul, hk0, hk1]
    exact hR _ (hM03.trans hM4 (by simp))
  · rw [any_no hno] at hR
    simp only [Bool.false_eq_true, if_false] at hR
    simp (maxSteps := 1000000) (disch := first | omega | (simp only [sizeAlloc, sizeDrew, sizeSet, sizePut] <;> omega) | fail) only [GS, TT_eq, TTl, Nat.reduceAdd, Nat.reduceMul, Nat.reduceSub, Nat.reduceDiv, Nat.reduceMod, Nat.reducePow, Nat.reduceEqDiff, ↓reduceIte, reduceCtorEq, Int.reduceToNat, Int.reduceAdd, Int.reduceSub, Int.reduceMul]
    exact hR _ (hM03.trans hM4 (by simp))
/-- A transaction at a member. -/
structure Pt where
  tx : Tx
  aud : Int
  mbs : List Mb
  org : Int
  body : List UInt8
  st : Nat
  tag : List UInt8
  sent : Int
/-- What is known of one that is read. -/
structure PtIn (w : World) (p : Pt) (ms : Value) : Prop where
  st : p.st < 256
  sent : I64 p.sent
  len : p.mbs.length ≤ 1000000
  dig : ∀ m ∈ p.mbs, m.2.length ≤ maxLen
  rd : Rd w 2 ms p.mbs.length (p.mbs.flatMap mbC)
  body : p.body.length ≤ maxLen
  tag : p.tag.length ≤ maxLen
theorem PtIn.mod {w w' : World} {p : Pt} {ms : Value} (h : PtIn w p ms) (hM : Mod [] w w') : PtIn w' p ms := ⟨h.st, h.sent, h.len, h.dig, h.rd.mod hM (by simp), h.body, h.tag⟩
theorem PtIn.new {w w' : World} {p : Pt} {ms ms' : Value} (h : PtIn w p ms) (hr : Rd w' 2 ms' p.mbs.length (p.mbs.flatMap mbC)) : PtIn w' p ms' := ⟨h.st, h.sent, h.len, h.dig, hr, h.body, h.tag⟩
def BW : List UInt8 := [98, 97, 108, 108, 111, 116]
def bdL (x : Tx) (aud : Int) (mbs : List Mb) (org : Int) : List (List UInt8) := [(dataS BW).1, (txnS x).1, (numS aud).1, (mbrsS x.1 mbs).1, (numS org).1]
/-- The body of a ballot. -/
def bodyS (x : Tx) (aud : Int) (mbs : List Mb) (org : Int) : List UInt8 × Int := if balB x aud mbs org = true then (if (mbrsS x.1 mbs).2 = 0 then madeS (114 :: numL 5) (bdL x aud mbs org) else ([], 5)) else ([], 2)
theorem mbrs_5 {c : Int} {l : List Mb} (h : mbB c l = true) : (mbrsS c l).2 = 0 ∨ (mbrsS c l).2 = 5 := by
  unfold mbrsS
  rw [if_pos h]
  cases hr : mbRows l with
  | none => exact .inr rfl
  | some r =>
    have hal : allS r = true := by
      unfold allS
      rw [List.all_eq_true]
      intro s hs
      exact decide_eq_true ((mbRows_len l r hr).2 s hs)
    simp only
    unfold madeS
    rw [if_pos hal]
    split
    · exact .inl rfl
    · exact .inr rfl
theorem bal_is {x : Tx} {aud : Int} {mbs : List Mb} {org : Int} (h : balB x aud mbs org = true) : txB x = true ∧ (0 ≤ aud ∧ aud < 8) ∧ mbB x.1 mbs = true ∧ (0 ≤ org ∧ org < 8) := by
  unfold balB at h
  simp only [Bool.and_eq_true] at h
  refine ⟨h.1.1.1, of_decide_eq_true h.1.1.2, h.1.2, ?_⟩
  obtain ⟨m, hm, he⟩ := List.any_eq_true.1 h.2
  have hB := h.1.2
  unfold mbB at hB
  rw [Bool.and_eq_true] at hB
  have h2 := mbs_el hB.1 m hm
  have h3 := of_decide_eq_true he
  omega
theorem bnS_len (v : Int) : (numS v).1.length ≤ 1000000 := by
  unfold numS
  split
  · simp
  · have := dataS_len (numL v.toNat); omega
theorem bd_len (x : Tx) (aud : Int) (mbs : List Mb) (org : Int) : ∀ s ∈ bdL x aud mbs org, s.length ≤ 1000000 := by
  unfold bdL
  intro s hs
  simp only [List.mem_cons, List.not_mem_nil, or_false] at hs
  rcases hs with rfl | rfl | rfl | rfl | rfl
  · have := dataS_len BW; omega
  · have := txn_len x; omega
  · exact bnS_len aud
  · have := mbrs_len x.1 mbs; omega
  · exact bnS_len org
theorem bnum_cps (v : Int) (h1 : -9223372036854775808 ≤ v) (h2 : v ≤ 9223372036854775807) (w : World) (R : Ending → World → Prop) (hR : ∀ w', Mod [] w w' → R (.returned (.string ⟨(numS v).1.toArray⟩)) w') :
    Calls Tryz.prog 104 #[.int .i64 v] w R := by
  refine calls_go 4000 okT Tryz.func104 rfl (rs := [.tmp 2]) rfl Tryz.ntmps104 (args := [.int .i64 v]) ?_
  simp (maxSteps := 1000000) (disch := first | omega | (simp only [sizeAlloc, sizeDrew, sizeSet, sizePut] <;> omega) | fail) only [GS, TT_eq, TTl, Nat.reduceAdd, Nat.reduceMul, Nat.reduceSub, Nat.reduceDiv, Nat.reduceMod, Nat.reducePow, Nat.reduceEqDiff, ↓reduceIte, reduceCtorEq, Int.reduceToNat, Int.reduceAdd, Int.reduceSub, Int.reduceMul]
  refine ⟨fok42, tNum_cps v h1 h2 _ _ fun w1 hM => .inl ⟨_, rfl, hold_ops okT (rs := [.tmp 2]) rfl ?_⟩⟩
  generalize numS v = N at *
  obtain ⟨t, e⟩ := N
  unfold stV
  simp (maxSteps := 1000000) (disch := first | omega | (simp only [sizeAlloc, sizeDrew, sizeSet, sizePut] <;> omega) | fail) only [GS, TT_eq, TTl, Nat.reduceAdd, Nat.reduceMul, Nat.reduceSub, Nat.reduceDiv, Nat.reduceMod, Nat.reducePow, Nat.reduceEqDiff, ↓reduceIte, reduceCtorEq, Int.reduceToNat, Int.reduceAdd, Int.reduceSub, Int.reduceMul]
  exact hR _ hM
theorem bBody_cps (x : Tx) (aud : Int) (ms : Value) (mbs : List Mb) (org : Int) (w : World) (hl : mbs.length ≤ 1000000) (hd : ∀ m ∈ mbs, m.2.length ≤ maxLen) (ha : Rd w 2 ms mbs.length (mbs.flatMap mbC)) (R : Ending → World → Prop) (hR : ∀ w', Mod [] w w' → R (.returned (stV (bodyS x aud mbs org))) w') :
    Calls Tryz.prog 64 #[balV x aud ms org] w R := by
  have hCk := fun w h => balCheck_cps x aud ms mbs org w hl hd h
  have htx := wTxn_cps x
  have hmbc := wMembers_cps x ms mbs
  have os : ms.oneCell' = true := by obtain ⟨a, c, e⟩ := ha.slice; rw [e]; rfl
  have hbi := @bal_is x aud mbs org
  have h5 := @mbrs_5 x.1 mbs
  have hbl := bd_len x aud mbs org
  unfold bodyS at hR
  have hL : bdL x aud mbs org = [(dataS BW).1, (txnS x).1, (numS aud).1, (mbrsS x.1 mbs).1, (numS org).1] := rfl
  generalize bdL x aud mbs org = L at *
  generalize balB x aud mbs org = B at *
  obtain ⟨a, b, c⟩ := x
  unfold balV at hCk ⊢
  unfold txV at htx hmbc
  simp only at hCk htx hmbc hbi h5 hL hR ⊢
  refine calls_go 4000 okT Tryz.func64 rfl (rs := [.tmp 2, .tmp 3]) rfl Tryz.ntmps64 (args := [.agg #[.int .i64 a, .int .i64 b, .int .i64 c, .int .i64 aud, ms, .int .i64 org]]) ?_
  simp (maxSteps := 1000000) (disch := first | omega | (simp only [sizeAlloc, sizeDrew, sizeSet, sizePut] <;> omega) | fail) only [GS, TT_eq, TTl, Nat.reduceAdd, Nat.reduceMul, Nat.reduceSub, Nat.reduceDiv, Nat.reduceMod, Nat.reducePow, Nat.reduceEqDiff, ↓reduceIte, reduceCtorEq, Int.reduceToNat, Int.reduceAdd, Int.reduceSub, Int.reduceMul, os, cellsL_one os]
  generalize hW : w.alloc (.cells #[.int .i64 a, .int .i64 b, .int .i64 c, .int .i64 aud, ms, .int .i64 org] 45) = w1
  obtain ⟨hA, hM0⟩ := bx6 hW
  clear hW
  generalize hn : w.heap.size = n at *
  refine ⟨fok103, hCk _ (ha.mod hM0 (by simp)) _ fun w2 hM2 => .inl ⟨_, rfl, hold_ops okT (rs := [.tmp 2, .tmp 3]) rfl ?_⟩⟩
  have hA2 := hM2.get hA (by simp)
  have hM02 := hM0.trans hM2 (by simp)
  cases B
  · simp only [Bool.false_eq_true, if_false] at hR ⊢
    unfold stV at hR
    simp (maxSteps := 1000000) (disch := first | omega | (simp only [sizeAlloc, sizeDrew, sizeSet, sizePut] <;> omega) | fail) only [GS, TT_eq, TTl, Nat.reduceAdd, Nat.reduceMul, Nat.reduceSub, Nat.reduceDiv, Nat.reduceMod, Nat.reducePow, Nat.reduceEqDiff, ↓reduceIte, reduceCtorEq, Int.reduceToNat, Int.reduceAdd, Int.reduceSub, Int.reduceMul]
    exact hR _ hM02
  simp only [if_true] at hR ⊢
  obtain ⟨-, hau, hmm, hog⟩ := hbi rfl
  replace h5 := h5 hmm
  simp (maxSteps := 1000000) (disch := first | omega | (simp only [sizeAlloc, sizeDrew, sizeSet, sizePut] <;> omega) | fail) only [GS, TT_eq, TTl, Nat.reduceAdd, Nat.reduceMul, Nat.reduceSub, Nat.reduceDiv, Nat.reduceMod, Nat.reducePow, Nat.reduceEqDiff, ↓reduceIte, reduceCtorEq, Int.reduceToNat, Int.reduceAdd, Int.reduceSub, Int.reduceMul]
  refine ⟨fok40, tData_cps BW (by unfold maxLen; decide) _ _ fun w3 hM3 => .inl ⟨_, rfl, hold_ops okT (rs := [.tmp 2, .tmp 3]) rfl ?_⟩⟩
  have hA3 := hM3.get hA2 (by simp)
  have hM03 := hM02.trans hM3 (by simp)
  have c3 := fun o => cellOf (o := o) hA3
  generalize dataS BW = Pd at *
  obtain ⟨dt, de⟩ := Pd
  unfold stV
  simp (maxSteps := 1000000) (disch := first | omega | (simp only [sizeAlloc, sizeDrew, sizeSet, sizePut] <;> omega) | fail) only [GS, TT_eq, TTl, Nat.reduceAdd, Nat.reduceMul, Nat.reduceSub, Nat.reduceDiv, Nat.reduceMod, Nat.reducePow, Nat.reduceEqDiff, ↓reduceIte, reduceCtorEq, Int.reduceToNat, Int.reduceAdd, Int.reduceSub, Int.reduceMul, c3]
  refine ⟨fok41, htx _ _ fun w4 hM4 => .inl ⟨_, rfl, hold_ops okT (rs := [.tmp 2, .tmp 3]) rfl ?_⟩⟩
  have hA4 := hM4.get hA3 (by simp)
  have hM04 := hM03.trans hM4 (by simp)
  have c4 := fun o => cellOf (o := o) hA4
  generalize txnS (a, b, c) = Px at *
  obtain ⟨xt, xe⟩ := Px
  unfold stV
  simp (maxSteps := 1000000) (disch := first | omega | (simp only [sizeAlloc, sizeDrew, sizeSet, sizePut] <;> omega) | fail) only [GS, TT_eq, TTl, Nat.reduceAdd, Nat.reduceMul, Nat.reduceSub, Nat.reduceDiv, Nat.reduceMod, Nat.reducePow, Nat.reduceEqDiff, ↓reduceIte, reduceCtorEq, Int.reduceToNat, Int.reduceAdd, Int.reduceSub, Int.reduceMul, c4]
  refine ⟨fok43, hmbc _ _ hl hd (ha.mod hM04 (by simp)) fun w5 hM5 => .inl ⟨_, rfl, hold_ops okT (rs := [.tmp 2, .tmp 3]) rfl ?_⟩⟩
  have hA5 := hM5.get hA4 (by simp)
  have hM05 := hM04.trans hM5 (by simp)
  have c5 := fun o => cellOf (o := o) hA5
  generalize mbrsS a mbs = Pm at *
  obtain ⟨mt, me⟩ := Pm
  unfold stV
  simp only at h5 hL hR
  by_cases hme : me = 0
  rotate_left
  · rw [if_neg hme] at hR
    have h55 : me = 5 := h5.resolve_left hme
    subst h55
    unfold stV at hR
    simp (maxSteps := 1000000) (disch := first | omega | (simp only [sizeAlloc, sizeDrew, sizeSet, sizePut] <;> omega) | fail) only [GS, TT_eq, TTl, Nat.reduceAdd, Nat.reduceMul, Nat.reduceSub, Nat.reduceDiv, Nat.reduceMod, Nat.reducePow, Nat.reduceEqDiff, ↓reduceIte, reduceCtorEq, Int.reduceToNat, Int.reduceAdd, Int.reduceSub, Int.reduceMul]
    exact hR _ hM05
  rw [if_pos hme] at hR
  subst hme
  simp (maxSteps := 1000000) (disch := first | omega | (simp only [sizeAlloc, sizeDrew, sizeSet, sizePut] <;> omega) | fail) only [GS, TT_eq, TTl, Nat.reduceAdd, Nat.reduceMul, Nat.reduceSub, Nat.reduceDiv, Nat.reduceMod, Nat.reducePow, Nat.reduceEqDiff, ↓reduceIte, reduceCtorEq, Int.reduceToNat, Int.reduceAdd, Int.reduceSub, Int.reduceMul]
  refine hold_draw okT (rs := [.tmp 2, .tmp 3]) rfl [0, 0, 0, 4, 12, 0, 0, 64, 220, 511, 1023, 2047, 2047, 8191, 16383] [0, 1, 2, 3, 5, 6, 7, 4, 8, 9, 10, 11, 12, 13, 14] (by kernel_rfl) (by kernel_rfl) ?_
  have hM56 := (Mod.refl [] w5).drewN 1
  generalize w5.drewN 1 = w6 at *
  have hA6 := hM56.get hA5 (by simp)
  have hM06 := hM05.trans hM56 (by simp)
  have c6 := fun o => cellOf (o := o) hA6
  simp (maxSteps := 1000000) (disch := first | omega | (simp only [sizeAlloc, sizeDrew, sizeSet, sizePut] <;> omega) | fail) only [GS, TT_eq, TTl, Nat.reduceAdd, Nat.reduceMul, Nat.reduceSub, Nat.reduceDiv, Nat.reduceMod, Nat.reducePow, Nat.reduceEqDiff, ↓reduceIte, reduceCtorEq, Int.reduceToNat, Int.reduceAdd, Int.reduceSub, Int.reduceMul, c6]
  refine ⟨fok104, bnum_cps aud (by omega) (by omega) _ _ fun w7 hM7 => .inl ⟨_, rfl, ?_⟩⟩
  have hA7 := hM7.get hA6 (by simp)
  have c7 := fun o => cellOf (o := o) hA7
  first | refine hold_dops okT (rs := [.tmp 2, .tmp 3]) rfl ?_ | refine ⟨(by repeat' (first | exact c7 _ | apply And.intro)), hold_dops okT (rs := [.tmp 2, .tmp 3]) rfl ?_⟩
  have hM07 := hM06.trans hM7 (by simp)
  simp (maxSteps := 1000000) (disch := first | omega | (simp only [sizeAlloc, sizeDrew, sizeSet, sizePut] <;> omega) | fail) only [GS, TT_eq, TTl, Nat.reduceAdd, Nat.reduceMul, Nat.reduceSub, Nat.reduceDiv, Nat.reduceMod, Nat.reducePow, Nat.reduceEqDiff, ↓reduceIte, reduceCtorEq, Int.reduceToNat, Int.reduceAdd, Int.reduceSub, Int.reduceMul, c7]
  refine ⟨fok104, bnum_cps org (by omega) (by omega) _ _ fun w8 hM8 => .inl ⟨_, rfl, ?_⟩⟩
  have hA8 := hM8.get hA7 (by simp)
  have c8 := fun o => cellOf (o := o) hA8
  first | refine hold_dops okT (rs := [.tmp 2, .tmp 3]) rfl ?_ | refine ⟨(by repeat' (first | exact c8 _ | apply And.intro)), hold_dops okT (rs := [.tmp 2, .tmp 3]) rfl ?_⟩
  have hM08 := hM07.trans hM8 (by simp)
  generalize numS aud = Na at *
  generalize numS org = No at *
  obtain ⟨nt, ne⟩ := Na
  obtain ⟨ot, oe⟩ := No
  simp only at hL
  simp (maxSteps := 1000000) (disch := first | omega | (simp only [sizeAlloc, sizeDrew, sizeSet, sizePut] <;> omega) | fail) only [GS, TT_eq, TTl, Nat.reduceAdd, Nat.reduceMul, Nat.reduceSub, Nat.reduceDiv, Nat.reduceMod, Nat.reducePow, Nat.reduceEqDiff, ↓reduceIte, reduceCtorEq, Int.reduceToNat, Int.reduceAdd, Int.reduceSub, Int.reduceMul, c8]
  have hrd := Rd.lit (w := w8) (size := 1) (n := 5) (e := 9) (xs := [dt, xt, nt, mt, ot].map strV) rfl
  rw [hL] at hbl hR
  refine ⟨fok39, tRow_cps _ [dt, xt, nt, mt, ot] _ _ (by simp) hbl hrd fun w9 hM9 => .inl ⟨_, rfl, ?_⟩⟩
  have hM09 := (hM08.alloc (.cells #[strV dt, strV xt, strV nt, strV mt, strV ot] 9)).trans hM9 (by simp)
  first | refine hold_dops okT (rs := [.tmp 2, .tmp 3]) rfl ?_ | refine ⟨trivial, hold_dops okT (rs := [.tmp 2, .tmp 3]) rfl ?_⟩
  unfold stV at hR ⊢
  simp (maxSteps := 1000000) (disch := first | omega | (simp only [sizeAlloc, sizeDrew, sizeSet, sizePut] <;> omega) | fail) only [GS, TT_eq, TTl, Nat.reduceAdd, Nat.reduceMul, Nat.reduceSub, Nat.reduceDiv, Nat.reduceMod, Nat.reducePow, Nat.reduceEqDiff, ↓reduceIte, reduceCtorEq, Int.reduceToNat, Int.reduceAdd, Int.reduceSub, Int.reduceMul]
  exact hR _ hM09
/-- The letters of the kinds lie in memory. -/
structure KG (w : World) : Prop where
  c1 : w.cell? ⟨0, 1, none⟩ = some (.string ⟨#[107]⟩)
  c2 : w.cell? ⟨0, 2, none⟩ = some (.string ⟨#[115]⟩)
theorem KG.lt {w : World} (h : KG w) : 0 < w.heap.size := World.block_lt_of_cell? w _ h.c1
theorem KG.mod {S : List Nat} {w w' : World} (h : KG w) (hM : Mod S w w') (h0 : 0 ∉ S) : KG w' :=
  ⟨(World.cell?_of_block (hM.block 0 h.lt h0)).trans h.c1, (World.cell?_of_block (hM.block 0 h.lt h0)).trans h.c2⟩
def orgOk (a : Int) : Prop := 0 ≤ a ∧ a < 8
instance (n : Int) : Decidable (orgOk n) := inferInstanceAs (Decidable (_ ∧ _))
def pairOk (a b : Int) : Prop := orgOk a ∧ orgOk b
instance (a b : Int) : Decidable (pairOk a b) := inferInstanceAs (Decidable (_ ∧ _))
def lt (k : Int) : UInt8 := if k = 1 then 107 else 115
def keyL (k a b : Int) : List UInt8 := [lt k, 47, UInt8.ofNat (48 + min a b).toNat, 47, UInt8.ofNat (48 + max a b).toNat]
def keyA (k a b : Int) : Value := if pairOk a b then .tuple #[.string ⟨(keyL k a b).toArray⟩, .int .i64 0] else .tuple #[.string ⟨#[]⟩, .int .i64 2]
theorem kname_cps (k a b : Int) (hk : k = 1 ∨ k = 2) (w : World) (R : Ending → World → Prop) (hg : KG w) (hR : ∀ w', Mod [] w w' → R (.returned (keyA k a b)) w') :
    Calls Tryz.prog 67 #[.int .i64 k, .int .i64 a, .int .i64 b] w R := by
  have h0 := hg.lt
  have c1 := hg.c1; have c2 := hg.c2
  unfold keyA at hR
  by_cases ha1 : a < 0
  · rw [if_neg (fun h => by have := h.1.1; omega)] at hR
    refine calls_go 4000 okT Tryz.func67 rfl (rs := [.tmp 6, .tmp 7]) rfl Tryz.ntmps67 (args := [.int .i64 k, .int .i64 a, .int .i64 b]) ?_
    simp (maxSteps := 1000000) (disch := first | omega | (simp only [sizeAlloc, sizeDrew, sizeSet, sizePut] <;> omega) | fail) only [GS, TT_eq, TTl, Nat.reduceAdd, Nat.reduceMul, Nat.reduceSub, Nat.reduceDiv, Nat.reduceMod, Nat.reducePow, Nat.reduceEqDiff, ↓reduceIte, reduceCtorEq, Int.reduceToNat, Int.reduceAdd, Int.reduceSub, Int.reduceMul]
    exact hR _ (Mod.refl _ _)
  by_cases ha2 : 8 ≤ a
  · rw [if_neg (fun h => by have := h.1.2; omega)] at hR
    refine calls_go 4000 okT Tryz.func67 rfl (rs := [.tmp 6, .tmp 7]) rfl Tryz.ntmps67 (args := [.int .i64 k, .int .i64 a, .int .i64 b]) ?_
    simp (maxSteps := 1000000) (disch := first | omega | (simp only [sizeAlloc, sizeDrew, sizeSet, sizePut] <;> omega) | fail) only [GS, TT_eq, TTl, Nat.reduceAdd, Nat.reduceMul, Nat.reduceSub, Nat.reduceDiv, Nat.reduceMod, Nat.reducePow, Nat.reduceEqDiff, ↓reduceIte, reduceCtorEq, Int.reduceToNat, Int.reduceAdd, Int.reduceSub, Int.reduceMul]
    exact hR _ (Mod.refl _ _)
  by_cases hb1 : b < 0
  · rw [if_neg (fun h => by have := h.2.1; omega)] at hR
    refine calls_go 4000 okT Tryz.func67 rfl (rs := [.tmp 6, .tmp 7]) rfl Tryz.ntmps67 (args := [.int .i64 k, .int .i64 a, .int .i64 b]) ?_
    simp (maxSteps := 1000000) (disch := first | omega | (simp only [sizeAlloc, sizeDrew, sizeSet, sizePut] <;> omega) | fail) only [GS, TT_eq, TTl, Nat.reduceAdd, Nat.reduceMul, Nat.reduceSub, Nat.reduceDiv, Nat.reduceMod, Nat.reducePow, Nat.reduceEqDiff, ↓reduceIte, reduceCtorEq, Int.reduceToNat, Int.reduceAdd, Int.reduceSub, Int.reduceMul]
    exact hR _ (Mod.refl _ _)
  by_cases hb2 : 8 ≤ b
  · rw [if_neg (fun h => by have := h.2.2; omega)] at hR
    refine calls_go 4000 okT Tryz.func67 rfl (rs := [.tmp 6, .tmp 7]) rfl Tryz.ntmps67 (args := [.int .i64 k, .int .i64 a, .int .i64 b]) ?_
    simp (maxSteps := 1000000) (disch := first | omega | (simp only [sizeAlloc, sizeDrew, sizeSet, sizePut] <;> omega) | fail) only [GS, TT_eq, TTl, Nat.reduceAdd, Nat.reduceMul, Nat.reduceSub, Nat.reduceDiv, Nat.reduceMod, Nat.reducePow, Nat.reduceEqDiff, ↓reduceIte, reduceCtorEq, Int.reduceToNat, Int.reduceAdd, Int.reduceSub, Int.reduceMul]
    exact hR _ (Mod.refl _ _)
  rw [if_pos ⟨⟨by omega, by omega⟩, by omega, by omega⟩] at hR
  rcases hk with rfl | rfl
  · refine calls_go 4000 okT Tryz.func67 rfl (rs := [.tmp 6, .tmp 7]) rfl Tryz.ntmps67 (args := [.int .i64 1, .int .i64 a, .int .i64 b]) ?_
    simp (maxSteps := 1000000) (disch := first | omega | (simp only [sizeAlloc, sizeDrew, sizeSet, sizePut] <;> omega) | fail) only [GS, TT_eq, TTl, Nat.reduceAdd, Nat.reduceMul, Nat.reduceSub, Nat.reduceDiv, Nat.reduceMod, Nat.reducePow, Nat.reduceEqDiff, ↓reduceIte, reduceCtorEq, Int.reduceToNat, Int.reduceAdd, Int.reduceSub, Int.reduceMul]
    refine hold_draw okT (rs := [.tmp 6, .tmp 7]) rfl [0, 1, 3, 0, 8, 24, 0, 64, 192, 504, 1016, 2047, 4095, 8191] [0, 1, 2, 3, 4, 5, 6, 7, 8, 9, 10, 11, 12, 13] (by kernel_rfl) (by kernel_rfl) ?_
    simp (maxSteps := 1000000) (disch := first | omega | (simp only [sizeAlloc, sizeDrew, sizeSet, sizePut] <;> omega) | fail) only [GS, TT_eq, TTl, Nat.reduceAdd, Nat.reduceMul, Nat.reduceSub, Nat.reduceDiv, Nat.reduceMod, Nat.reducePow, Nat.reduceEqDiff, ↓reduceIte, reduceCtorEq, Int.reduceToNat, Int.reduceAdd, Int.reduceSub, Int.reduceMul, c1]
    exact hR _ (((Mod.refl _ _).drewN 1).alloc _)
  · refine calls_go 4000 okT Tryz.func67 rfl (rs := [.tmp 6, .tmp 7]) rfl Tryz.ntmps67 (args := [.int .i64 2, .int .i64 a, .int .i64 b]) ?_
    simp (maxSteps := 1000000) (disch := first | omega | (simp only [sizeAlloc, sizeDrew, sizeSet, sizePut] <;> omega) | fail) only [GS, TT_eq, TTl, Nat.reduceAdd, Nat.reduceMul, Nat.reduceSub, Nat.reduceDiv, Nat.reduceMod, Nat.reducePow, Nat.reduceEqDiff, ↓reduceIte, reduceCtorEq, Int.reduceToNat, Int.reduceAdd, Int.reduceSub, Int.reduceMul]
    refine hold_draw okT (rs := [.tmp 6, .tmp 7]) rfl [0, 1, 3, 0, 8, 24, 0, 64, 192, 504, 1016, 2047, 4095, 8191] [0, 1, 2, 3, 4, 5, 6, 7, 8, 9, 10, 11, 12, 13] (by kernel_rfl) (by kernel_rfl) ?_
    simp (maxSteps := 1000000) (disch := first | omega | (simp only [sizeAlloc, sizeDrew, sizeSet, sizePut] <;> omega) | fail) only [GS, TT_eq, TTl, Nat.reduceAdd, Nat.reduceMul, Nat.reduceSub, Nat.reduceDiv, Nat.reduceMod, Nat.reducePow, Nat.reduceEqDiff, ↓reduceIte, reduceCtorEq, Int.reduceToNat, Int.reduceAdd, Int.reduceSub, Int.reduceMul, c2]
    exact hR _ (((Mod.refl _ _).drewN 1).alloc _)
theorem kTag_cps (a b : Int) (w : World) (R : Ending → World → Prop) (hg : KG w) (hR : ∀ w', Mod [] w w' → R (.returned (keyA 1 a b)) w') : Calls Tryz.prog 29 #[.int .i64 a, .int .i64 b] w R := by
  refine calls_go 4000 okT Tryz.func29 rfl (rs := [.tmp 4, .tmp 5]) rfl Tryz.ntmps29 (args := [.int .i64 a, .int .i64 b]) ?_
  simp (maxSteps := 1000000) (disch := first | omega | (simp only [sizeAlloc, sizeDrew, sizeSet, sizePut] <;> omega) | fail) only [GS, TT_eq, TTl, Nat.reduceAdd, Nat.reduceMul, Nat.reduceSub, Nat.reduceDiv, Nat.reduceMod, Nat.reducePow, Nat.reduceEqDiff, ↓reduceIte, reduceCtorEq, Int.reduceToNat, Int.reduceAdd, Int.reduceSub, Int.reduceMul]
  refine ⟨fok67, kname_cps 1 a b (.inl rfl) _ _ hg fun w1 hM => .inl ⟨_, rfl, hold_ops okT (rs := [.tmp 4, .tmp 5]) rfl ?_⟩⟩
  have := hR _ hM
  unfold keyA at this ⊢
  by_cases h : pairOk a b
  · rw [if_pos h] at this ⊢
    simp (maxSteps := 1000000) (disch := first | omega | (simp only [sizeAlloc, sizeDrew, sizeSet, sizePut] <;> omega) | fail) only [GS, TT_eq, TTl, Nat.reduceAdd, Nat.reduceMul, Nat.reduceSub, Nat.reduceDiv, Nat.reduceMod, Nat.reducePow, Nat.reduceEqDiff, ↓reduceIte, reduceCtorEq, Int.reduceToNat, Int.reduceAdd, Int.reduceSub, Int.reduceMul]
    exact this
  · rw [if_neg h] at this ⊢
    simp (maxSteps := 1000000) (disch := first | omega | (simp only [sizeAlloc, sizeDrew, sizeSet, sizePut] <;> omega) | fail) only [GS, TT_eq, TTl, Nat.reduceAdd, Nat.reduceMul, Nat.reduceSub, Nat.reduceDiv, Nat.reduceMod, Nat.reducePow, Nat.reduceEqDiff, ↓reduceIte, reduceCtorEq, Int.reduceToNat, Int.reduceAdd, Int.reduceSub, Int.reduceMul]
    exact this
/-- The tag of a ballot, in a suite of terms. -/
def tagS (x : Tx) (aud : Int) (mbs : List Mb) (org : Int) : List UInt8 × Int := if (bodyS x aud mbs org).2 = 0 then madeS [109] [(atomS (keyL 1 org aud)).1, (bodyS x aud mbs org).1] else ([], (bodyS x aud mbs org).2)
theorem body_is {x : Tx} {aud : Int} {mbs : List Mb} {org : Int} (h : (bodyS x aud mbs org).2 = 0) : balB x aud mbs org = true := by
  unfold bodyS at h
  split at h
  · assumption
  · simp at h
theorem body_len (x : Tx) (aud : Int) (mbs : List Mb) (org : Int) : (bodyS x aud mbs org).1.length ≤ 16384 := by
  unfold bodyS
  split
  · split
    · exact made_len _ _
    · simp
  · simp
theorem atomS_len (s : List UInt8) : (atomS s).1.length ≤ 1000000 := by
  unfold atomS
  repeat' split
  · simp
  · rename_i h _
    have := numL_len (v := s.length) (by omega)
    simp
    omega
  · simp
def tagG (kt : List Int) (σ : Sut) (x : Tx) (aud : Int) (mbs : List Mb) (org : Int) : List UInt8 × Int := if (bodyS x aud mbs org).2 = 0 then macG kt σ (keyG kt σ (keyL 1 org aud)).1 (bodyS x aud mbs org).1 else ([], (bodyS x aud mbs org).2)
theorem tagG_len (kt : List Int) (σ : Sut) (x : Tx) (aud : Int) (mbs : List Mb) (org : Int) : (tagG kt σ x aud mbs org).1.length ≤ 16384 := by
  unfold tagG
  split
  · exact macG_len _ _ _ _
  · simp
theorem bTagG_cps (kt : List Int) (σ : Sut) (s : Nat) (x : Tx) (aud : Int) (ms : Value) (mbs : List Mb) (org : Int) (w : World) (hl : mbs.length ≤ 1000000) (hd : ∀ m ∈ mbs, m.2.length ≤ maxLen) (ha : Rd w 2 ms mbs.length (mbs.flatMap mbC)) (hs : isS w s σ) (hg : KG w) (hK : KTab w kt) (R : Ending → World → Prop) (hR : ∀ w', Mod [] w w' → R (.returned (stV (tagG kt σ x aud mbs org))) w') :
    Calls Tryz.prog 28 #[.pointer (some ⟨s, 0, none⟩), balV x aud ms org] w R := by
  have hBd := fun w h => bBody_cps x aud ms mbs org w hl hd h
  have hbi := fun h => (bal_is (body_is (x := x) (aud := aud) (mbs := mbs) (org := org) h))
  have hbl := body_len x aud mbs org
  have os : ms.oneCell' = true := by obtain ⟨a, c, e⟩ := ha.slice; rw [e]; rfl
  unfold tagG at hR
  generalize bodyS x aud mbs org = D at *
  obtain ⟨dt, de⟩ := D
  obtain ⟨a, b, c⟩ := x
  unfold balV at hBd ⊢
  simp only at hBd hR hbi hbl ⊢
  refine calls_go 4000 okT Tryz.func28 rfl (rs := [.tmp 4, .tmp 5]) rfl Tryz.ntmps28 (args := [.pointer (some ⟨s, 0, none⟩), .agg #[.int .i64 a, .int .i64 b, .int .i64 c, .int .i64 aud, ms, .int .i64 org]]) ?_
  simp (maxSteps := 1000000) (disch := first | omega | (simp only [sizeAlloc, sizeDrew, sizeSet, sizePut] <;> omega) | fail) only [GS, TT_eq, TTl, Nat.reduceAdd, Nat.reduceMul, Nat.reduceSub, Nat.reduceDiv, Nat.reduceMod, Nat.reducePow, Nat.reduceEqDiff, ↓reduceIte, reduceCtorEq, Int.reduceToNat, Int.reduceAdd, Int.reduceSub, Int.reduceMul, os, cellsL_one os]
  generalize hW : w.alloc (.cells #[.int .i64 a, .int .i64 b, .int .i64 c, .int .i64 aud, ms, .int .i64 org] 45) = w1
  obtain ⟨hA, hM0⟩ := bx6 hW
  clear hW
  generalize hn : w.heap.size = n at *
  refine ⟨fok64, hBd _ (ha.mod hM0 (by simp)) _ fun w2 hM2 => .inl ⟨_, rfl, hold_ops okT (rs := [.tmp 4, .tmp 5]) rfl ?_⟩⟩
  have hA2 := hM2.get hA (by simp)
  have hM02 := hM0.trans hM2 (by simp)
  have c2 := fun o => cellOf (o := o) hA2
  unfold stV
  by_cases he : de = 0
  rotate_left
  · rw [if_neg he] at hR
    unfold stV at hR
    simp (maxSteps := 1000000) (disch := first | omega | (simp only [sizeAlloc, sizeDrew, sizeSet, sizePut] <;> omega) | fail) only [GS, TT_eq, TTl, Nat.reduceAdd, Nat.reduceMul, Nat.reduceSub, Nat.reduceDiv, Nat.reduceMod, Nat.reducePow, Nat.reduceEqDiff, ↓reduceIte, reduceCtorEq, Int.reduceToNat, Int.reduceAdd, Int.reduceSub, Int.reduceMul, he]
    exact hR _ hM02
  rw [if_pos he] at hR
  obtain ⟨-, hau, -, hog⟩ := hbi he
  subst he
  simp (maxSteps := 1000000) (disch := first | omega | (simp only [sizeAlloc, sizeDrew, sizeSet, sizePut] <;> omega) | fail) only [GS, TT_eq, TTl, Nat.reduceAdd, Nat.reduceMul, Nat.reduceSub, Nat.reduceDiv, Nat.reduceMod, Nat.reducePow, Nat.reduceEqDiff, ↓reduceIte, reduceCtorEq, Int.reduceToNat, Int.reduceAdd, Int.reduceSub, Int.reduceMul, c2]
  refine ⟨fok29, kTag_cps org aud _ _ (hg.mod hM02 (by simp)) fun w3 hM3 => .inl ⟨_, rfl, hold_ops okT (rs := [.tmp 4, .tmp 5]) rfl ?_⟩⟩
  have hM03 := hM02.trans hM3 (by simp)
  have hkl : (keyL 1 org aud).length ≤ maxLen := by unfold keyL maxLen; simp
  unfold keyA
  rw [if_pos (show pairOk org aud from ⟨⟨hog.1, hog.2⟩, hau.1, hau.2⟩)]
  generalize keyL 1 org aud = kn at *
  simp (maxSteps := 1000000) (disch := first | omega | (simp only [sizeAlloc, sizeDrew, sizeSet, sizePut] <;> omega) | fail) only [GS, TT_eq, TTl, Nat.reduceAdd, Nat.reduceMul, Nat.reduceSub, Nat.reduceDiv, Nat.reduceMod, Nat.reducePow, Nat.reduceEqDiff, ↓reduceIte, reduceCtorEq, Int.reduceToNat, Int.reduceAdd, Int.reduceSub, Int.reduceMul]
  refine ⟨fok65, gKey_cps kt σ s kn hkl _ (hs.mod hM03) (hK.mod hM03 (by simp)) _ fun w4 hM4 => .inl ⟨_, rfl, hold_ops okT (rs := [.tmp 4, .tmp 5]) rfl ?_⟩⟩
  have hM04 := hM03.trans hM4 (by simp)
  have hal := keyG_len kt σ kn
  generalize keyG kt σ kn = Ak at *
  obtain ⟨at_, ae⟩ := Ak
  unfold stV
  simp only at hal hR
  simp (maxSteps := 1000000) (disch := first | omega | (simp only [sizeAlloc, sizeDrew, sizeSet, sizePut] <;> omega) | fail) only [GS, TT_eq, TTl, Nat.reduceAdd, Nat.reduceMul, Nat.reduceSub, Nat.reduceDiv, Nat.reduceMod, Nat.reducePow, Nat.reduceEqDiff, ↓reduceIte, reduceCtorEq, Int.reduceToNat, Int.reduceAdd, Int.reduceSub, Int.reduceMul]
  refine ⟨fok66, gMac_cps kt σ s at_ dt (by omega) (by omega) _ (hs.mod hM04) (hK.mod hM04 (by simp)) _ fun w5 hM5 => .inl ⟨_, rfl, hold_ops okT (rs := [.tmp 4, .tmp 5]) rfl ?_⟩⟩
  have hM05 := hM04.trans hM5 (by simp)
  unfold stV at hR ⊢
  simp (maxSteps := 1000000) (disch := first | omega | (simp only [sizeAlloc, sizeDrew, sizeSet, sizePut] <;> omega) | fail) only [GS, TT_eq, TTl, Nat.reduceAdd, Nat.reduceMul, Nat.reduceSub, Nat.reduceDiv, Nat.reduceMod, Nat.reducePow, Nat.reduceEqDiff, ↓reduceIte, reduceCtorEq, Int.reduceToNat, Int.reduceAdd, Int.reduceSub, Int.reduceMul]
  exact hR _ hM05
theorem bFitsG_cps (kt : List Int) (σ : Sut) (s : Nat) (x : Tx) (aud : Int) (ms : Value) (mbs : List Mb) (org : Int) (t : List UInt8) (w : World) (hl : mbs.length ≤ 1000000) (hd : ∀ m ∈ mbs, m.2.length ≤ maxLen) (ha : Rd w 2 ms mbs.length (mbs.flatMap mbC)) (hs : isS w s σ) (hg : KG w) (hK : KTab w kt) (R : Ending → World → Prop) (hR : ∀ w', Mod [] w w' → R (.returned (.bool (decide ((tagG kt σ x aud mbs org).2 = 0) && decide ((tagG kt σ x aud mbs org).1 = t)))) w') :
    Calls Tryz.prog 14 #[.pointer (some ⟨s, 0, none⟩), balV x aud ms org, .string ⟨t.toArray⟩] w R := by
  have hTg := fun w h => bTagG_cps kt σ s x aud ms mbs org w hl hd h
  have htl := tagG_len kt σ x aud mbs org
  have os : ms.oneCell' = true := by obtain ⟨a, c, e⟩ := ha.slice; rw [e]; rfl
  generalize tagG kt σ x aud mbs org = D at *
  obtain ⟨dt, de⟩ := D
  obtain ⟨a, b, c⟩ := x
  unfold balV at hTg ⊢
  unfold stV at hTg
  simp only at hTg hR htl ⊢
  refine calls_go 4000 okT Tryz.func14 rfl (rs := [.tmp 6]) rfl Tryz.ntmps14 (args := [.pointer (some ⟨s, 0, none⟩), .agg #[.int .i64 a, .int .i64 b, .int .i64 c, .int .i64 aud, ms, .int .i64 org], .string ⟨t.toArray⟩]) ?_
  simp (maxSteps := 1000000) (disch := first | omega | (simp only [sizeAlloc, sizeDrew, sizeSet, sizePut] <;> omega) | fail) only [GS, TT_eq, TTl, Nat.reduceAdd, Nat.reduceMul, Nat.reduceSub, Nat.reduceDiv, Nat.reduceMod, Nat.reducePow, Nat.reduceEqDiff, ↓reduceIte, reduceCtorEq, Int.reduceToNat, Int.reduceAdd, Int.reduceSub, Int.reduceMul, os, cellsL_one os]
  generalize hW : w.alloc (.cells #[.int .i64 a, .int .i64 b, .int .i64 c, .int .i64 aud, ms, .int .i64 org] 45) = w1
  obtain ⟨hA, hM0⟩ := bx6 hW
  clear hW
  refine ⟨fok28, hTg _ (ha.mod hM0 (by simp)) (hs.mod hM0) (hg.mod hM0 (by simp)) (hK.mod hM0 (by simp)) _ fun w2 hM2 => .inl ⟨_, rfl, hold_ops okT (rs := [.tmp 6]) rfl ?_⟩⟩
  have hM02 := hM0.trans hM2 (by simp)
  by_cases he : de = 0
  rotate_left
  · rw [decide_eq_false he, Bool.false_and] at hR
    simp (maxSteps := 1000000) (disch := first | omega | (simp only [sizeAlloc, sizeDrew, sizeSet, sizePut] <;> omega) | fail) only [GS, TT_eq, TTl, Nat.reduceAdd, Nat.reduceMul, Nat.reduceSub, Nat.reduceDiv, Nat.reduceMod, Nat.reducePow, Nat.reduceEqDiff, ↓reduceIte, reduceCtorEq, Int.reduceToNat, Int.reduceAdd, Int.reduceSub, Int.reduceMul, he]
    exact hR _ hM02
  rw [decide_eq_true he, Bool.true_and] at hR
  subst he
  simp (maxSteps := 1000000) (disch := first | omega | (simp only [sizeAlloc, sizeDrew, sizeSet, sizePut] <;> omega) | fail) only [GS, TT_eq, TTl, Nat.reduceAdd, Nat.reduceMul, Nat.reduceSub, Nat.reduceDiv, Nat.reduceMod, Nat.reducePow, Nat.reduceEqDiff, ↓reduceIte, reduceCtorEq, Int.reduceToNat, Int.reduceAdd, Int.reduceSub, Int.reduceMul]
  refine ⟨fok45, sSame_cps s dt t (by unfold maxLen; omega) _ _ fun w3 hM3 => .inl ⟨_, rfl, hold_ops okT (rs := [.tmp 6]) rfl ?_⟩⟩
  simp (maxSteps := 1000000) (disch := first | omega | (simp only [sizeAlloc, sizeDrew, sizeSet, sizePut] <;> omega) | fail) only [GS, TT_eq, TTl, Nat.reduceAdd, Nat.reduceMul, Nat.reduceSub, Nat.reduceDiv, Nat.reduceMod, Nat.reducePow, Nat.reduceEqDiff, ↓reduceIte, reduceCtorEq, Int.reduceToNat, Int.reduceAdd, Int.reduceSub, Int.reduceMul]
  exact hR _ (hM02.trans hM3 (by simp))
def rwV (e : Int) : List PanicEntry := [{ v := .iface 150 (.agg #[.int .i64 e]), recovered := false }]
theorem eMust_cps (b : Bool) (e : Int) (w : World) (R : Ending → World → Prop) (h1 : b = true → R (.returned (.tuple #[])) w) (h0 : b = false → R (.panicked (rwV e)) w) : Calls Tryz.prog 76 #[.bool b, .int .i64 e] w R := by
  refine calls_go 4000 okT Tryz.func76 rfl (rs := []) rfl Tryz.ntmps76 (args := [.bool b, .int .i64 e]) ?_
  cases b
  · simp (maxSteps := 1000000) (disch := first | omega | (simp only [sizeAlloc, sizeDrew, sizeSet, sizePut] <;> omega) | fail) only [GS, TT_eq, TTl, Nat.reduceAdd, Nat.reduceMul, Nat.reduceSub, Nat.reduceDiv, Nat.reduceMod, Nat.reducePow, Nat.reduceEqDiff, ↓reduceIte, reduceCtorEq, Int.reduceToNat, Int.reduceAdd, Int.reduceSub, Int.reduceMul]
    unfold panW
    refine hold_ex okT (rs := []) rfl ?_
    simp (maxSteps := 1000000) (disch := first | omega | (simp only [sizeAlloc, sizeDrew, sizeSet, sizePut] <;> omega) | fail) only [GS, TT_eq, TTl, Nat.reduceAdd, Nat.reduceMul, Nat.reduceSub, Nat.reduceDiv, Nat.reduceMod, Nat.reducePow, Nat.reduceEqDiff, ↓reduceIte, reduceCtorEq, Int.reduceToNat, Int.reduceAdd, Int.reduceSub, Int.reduceMul]
    exact h0 rfl
  · simp (maxSteps := 1000000) (disch := first | omega | (simp only [sizeAlloc, sizeDrew, sizeSet, sizePut] <;> omega) | fail) only [GS, TT_eq, TTl, Nat.reduceAdd, Nat.reduceMul, Nat.reduceSub, Nat.reduceDiv, Nat.reduceMod, Nat.reducePow, Nat.reduceEqDiff, ↓reduceIte, reduceCtorEq, Int.reduceToNat, Int.reduceAdd, Int.reduceSub, Int.reduceMul]
    exact h1 rfl
theorem eMade_cps (t : List UInt8) (e : Int) (w : World) (R : Ending → World → Prop) (h1 : e = 0 → R (.returned (.string ⟨t.toArray⟩)) w) (h0 : e ≠ 0 → R (.panicked (rwV 5)) w) : Calls Tryz.prog 38 #[.string ⟨t.toArray⟩, .int .i64 e] w R := by
  refine calls_go 4000 okT Tryz.func38 rfl (rs := [.tmp 4]) rfl Tryz.ntmps38 (args := [.string ⟨t.toArray⟩, .int .i64 e]) ?_
  by_cases he : e = 0
  · subst he
    simp (maxSteps := 1000000) (disch := first | omega | (simp only [sizeAlloc, sizeDrew, sizeSet, sizePut] <;> omega) | fail) only [GS, TT_eq, TTl, Nat.reduceAdd, Nat.reduceMul, Nat.reduceSub, Nat.reduceDiv, Nat.reduceMod, Nat.reducePow, Nat.reduceEqDiff, ↓reduceIte, reduceCtorEq, Int.reduceToNat, Int.reduceAdd, Int.reduceSub, Int.reduceMul]
    refine ⟨fok76, eMust_cps true 5 _ _ (fun _ => .inl ⟨_, rfl, hold_ops okT (rs := [.tmp 4]) rfl ?_⟩) (fun h => absurd h (by simp))⟩
    simp (maxSteps := 1000000) (disch := first | omega | (simp only [sizeAlloc, sizeDrew, sizeSet, sizePut] <;> omega) | fail) only [GS, TT_eq, TTl, Nat.reduceAdd, Nat.reduceMul, Nat.reduceSub, Nat.reduceDiv, Nat.reduceMod, Nat.reducePow, Nat.reduceEqDiff, ↓reduceIte, reduceCtorEq, Int.reduceToNat, Int.reduceAdd, Int.reduceSub, Int.reduceMul]
    exact h1 rfl
  · simp (maxSteps := 1000000) (disch := first | omega | (simp only [sizeAlloc, sizeDrew, sizeSet, sizePut] <;> omega) | fail) only [GS, TT_eq, TTl, Nat.reduceAdd, Nat.reduceMul, Nat.reduceSub, Nat.reduceDiv, Nat.reduceMod, Nat.reducePow, Nat.reduceEqDiff, ↓reduceIte, reduceCtorEq, Int.reduceToNat, Int.reduceAdd, Int.reduceSub, Int.reduceMul, he]
    refine ⟨fok76, eMust_cps false 5 _ _ (fun h => absurd h (by simp)) (fun _ => .inr ⟨_, rfl, hold_ex okT (rs := [.tmp 4]) rfl ?_⟩)⟩
    simp (maxSteps := 1000000) (disch := first | omega | (simp only [sizeAlloc, sizeDrew, sizeSet, sizePut] <;> omega) | fail) only [GS, TT_eq, TTl, Nat.reduceAdd, Nat.reduceMul, Nat.reduceSub, Nat.reduceDiv, Nat.reduceMod, Nat.reducePow, Nat.reduceEqDiff, ↓reduceIte, reduceCtorEq, Int.reduceToNat, Int.reduceAdd, Int.reduceSub, Int.reduceMul]
    exact h0 he
theorem eNumber_cps (S : List UInt8) (hS : S.length ≤ maxLen) (w : World) (R : Ending → World → Prop) (h1 : ∀ v w', numT S = some v → Mod [] w w' → R (.returned (.int .i64 v)) w') (h0 : numT S = none → ∀ w', Mod [] w w' → R (.panicked (rwV 7)) w') : Calls Tryz.prog 114 #[.string ⟨S.toArray⟩] w R := by
  refine calls_go 4000 okT Tryz.func114 rfl (rs := [.tmp 2]) rfl Tryz.ntmps114 (args := [.string ⟨S.toArray⟩]) ?_
  simp (maxSteps := 1000000) (disch := first | omega | (simp only [sizeAlloc, sizeDrew, sizeSet, sizePut] <;> omega) | fail) only [GS, TT_eq, TTl, Nat.reduceAdd, Nat.reduceMul, Nat.reduceSub, Nat.reduceDiv, Nat.reduceMod, Nat.reducePow, Nat.reduceEqDiff, ↓reduceIte, reduceCtorEq, Int.reduceToNat, Int.reduceAdd, Int.reduceSub, Int.reduceMul]
  refine ⟨fok95, tReadNum_cps S hS _ _ fun w1 hM => .inl ⟨_, rfl, hold_ops okT (rs := [.tmp 2]) rfl ?_⟩⟩
  cases hn : numT S with
  | none =>
    unfold nuV
    simp (maxSteps := 1000000) (disch := first | omega | (simp only [sizeAlloc, sizeDrew, sizeSet, sizePut] <;> omega) | fail) only [GS, TT_eq, TTl, Nat.reduceAdd, Nat.reduceMul, Nat.reduceSub, Nat.reduceDiv, Nat.reduceMod, Nat.reducePow, Nat.reduceEqDiff, ↓reduceIte, reduceCtorEq, Int.reduceToNat, Int.reduceAdd, Int.reduceSub, Int.reduceMul]
    refine ⟨fok76, eMust_cps false 7 _ _ (fun h => absurd h (by simp)) (fun _ => .inr ⟨_, rfl, hold_ex okT (rs := [.tmp 2]) rfl ?_⟩)⟩
    simp (maxSteps := 1000000) (disch := first | omega | (simp only [sizeAlloc, sizeDrew, sizeSet, sizePut] <;> omega) | fail) only [GS, TT_eq, TTl, Nat.reduceAdd, Nat.reduceMul, Nat.reduceSub, Nat.reduceDiv, Nat.reduceMod, Nat.reducePow, Nat.reduceEqDiff, ↓reduceIte, reduceCtorEq, Int.reduceToNat, Int.reduceAdd, Int.reduceSub, Int.reduceMul]
    exact h0 hn _ hM
  | some v =>
    unfold nuV
    simp (maxSteps := 1000000) (disch := first | omega | (simp only [sizeAlloc, sizeDrew, sizeSet, sizePut] <;> omega) | fail) only [GS, TT_eq, TTl, Nat.reduceAdd, Nat.reduceMul, Nat.reduceSub, Nat.reduceDiv, Nat.reduceMod, Nat.reducePow, Nat.reduceEqDiff, ↓reduceIte, reduceCtorEq, Int.reduceToNat, Int.reduceAdd, Int.reduceSub, Int.reduceMul]
    refine ⟨fok76, eMust_cps true 7 _ _ (fun _ => .inl ⟨_, rfl, hold_ops okT (rs := [.tmp 2]) rfl ?_⟩) (fun h => absurd h (by simp))⟩
    simp (maxSteps := 1000000) (disch := first | omega | (simp only [sizeAlloc, sizeDrew, sizeSet, sizePut] <;> omega) | fail) only [GS, TT_eq, TTl, Nat.reduceAdd, Nat.reduceMul, Nat.reduceSub, Nat.reduceDiv, Nat.reduceMod, Nat.reducePow, Nat.reduceEqDiff, ↓reduceIte, reduceCtorEq, Int.reduceToNat, Int.reduceAdd, Int.reduceSub, Int.reduceMul]
    exact h1 v _ hn hM
/-- The parts of a row of so many, or of any number. -/
def rowR (S : List UInt8) (n : Int) : Option (List (List UInt8)) := if kindS S = 3 ∧ (n < 0 ∨ ((partsS S).length : Int) = n) then some (partsS S) else none
theorem kind_0 {S : List UInt8} (h : checkS S ≠ 0) : kindS S = 0 := by unfold kindS; rw [if_neg h]
theorem eRow_cps (S : List UInt8) (n : Int) (hn1 : -1 ≤ n) (hn : n ≤ 100) (hS : S.length ≤ maxLen) (w : World) (R : Ending → World → Prop) (h1 : ∀ l sv w', rowR S n = some l → w'.ownsRow w.heap.size 9 1 sv l.length (l.map strV) → Mod [] w w' → R (.returned sv) w') (h0 : rowR S n = none → ∀ w', Mod [] w w' → R (.panicked (rwV 7)) w') :
    Calls Tryz.prog 112 #[.string ⟨S.toArray⟩, .int .i64 n] w R := by
  generalize hX : rowR S n = X at h1 h0
  unfold rowR at hX
  refine calls_go 4000 okT Tryz.func112 rfl (rs := [.tmp 4]) rfl Tryz.ntmps112 (args := [.string ⟨S.toArray⟩, .int .i64 n]) ?_
  simp (maxSteps := 1000000) (disch := first | omega | (simp only [sizeAlloc, sizeDrew, sizeSet, sizePut] <;> omega) | fail) only [GS, TT_eq, TTl, Nat.reduceAdd, Nat.reduceMul, Nat.reduceSub, Nat.reduceDiv, Nat.reduceMod, Nat.reducePow, Nat.reduceEqDiff, ↓reduceIte, reduceCtorEq, Int.reduceToNat, Int.reduceAdd, Int.reduceSub, Int.reduceMul]
  refine ⟨fok92, tParts_cps S hS _ _ (fun hc w1 hM1 => .inl ⟨_, rfl, hold_ops okT (rs := [.tmp 4]) rfl ?_⟩) (fun hc sv w1 hown hM1 => .inl ⟨_, rfl, hold_ops okT (rs := [.tmp 4]) rfl ?_⟩)⟩
  · have hk := kind_0 hc
    rw [if_neg (fun h => by omega)] at hX
    simp (maxSteps := 1000000) (disch := first | omega | (simp only [sizeAlloc, sizeDrew, sizeSet, sizePut] <;> omega) | fail) only [GS, TT_eq, TTl, Nat.reduceAdd, Nat.reduceMul, Nat.reduceSub, Nat.reduceDiv, Nat.reduceMod, Nat.reducePow, Nat.reduceEqDiff, ↓reduceIte, reduceCtorEq, Int.reduceToNat, Int.reduceAdd, Int.reduceSub, Int.reduceMul]
    refine ⟨fok32, tKind_cps S hS _ _ fun w2 hM2 => .inl ⟨_, rfl, hold_ops okT (rs := [.tmp 4]) rfl ?_⟩⟩
    rw [hk]
    simp (maxSteps := 1000000) (disch := first | omega | (simp only [sizeAlloc, sizeDrew, sizeSet, sizePut] <;> omega) | fail) only [GS, TT_eq, TTl, Nat.reduceAdd, Nat.reduceMul, Nat.reduceSub, Nat.reduceDiv, Nat.reduceMod, Nat.reducePow, Nat.reduceEqDiff, ↓reduceIte, reduceCtorEq, Int.reduceToNat, Int.reduceAdd, Int.reduceSub, Int.reduceMul]
    refine ⟨fok76, eMust_cps false 7 _ _ (fun h => absurd h (by simp)) (fun _ => .inr ⟨_, rfl, hold_ex okT (rs := [.tmp 4]) rfl ?_⟩)⟩
    simp (maxSteps := 1000000) (disch := first | omega | (simp only [sizeAlloc, sizeDrew, sizeSet, sizePut] <;> omega) | fail) only [GS, TT_eq, TTl, Nat.reduceAdd, Nat.reduceMul, Nat.reduceSub, Nat.reduceDiv, Nat.reduceMod, Nat.reducePow, Nat.reduceEqDiff, ↓reduceIte, reduceCtorEq, Int.reduceToNat, Int.reduceAdd, Int.reduceSub, Int.reduceMul]
    exact h0 hX.symm _ (hM1.trans hM2 (by simp))
  · have hpn := partsS_len S
    have hSl := (check0 hc).2.2.1
    obtain ⟨la, lc, rfl⟩ := (Rd.own hown).slice
    simp (maxSteps := 1000000) (disch := first | omega | (simp only [sizeAlloc, sizeDrew, sizeSet, sizePut] <;> omega) | fail) only [GS, TT_eq, TTl, Nat.reduceAdd, Nat.reduceMul, Nat.reduceSub, Nat.reduceDiv, Nat.reduceMod, Nat.reducePow, Nat.reduceEqDiff, ↓reduceIte, reduceCtorEq, Int.reduceToNat, Int.reduceAdd, Int.reduceSub, Int.reduceMul]
    refine ⟨fok32, tKind_cps S hS _ _ fun w2 hM2 => .inl ⟨_, rfl, hold_ops okT (rs := [.tmp 4]) rfl ?_⟩⟩
    have hM := hM1.trans hM2 (by simp)
    have hown2 := ownsRow_mod hown hM2 (by simp)
    by_cases hk : (kindS S : Int) = 3
    · by_cases hn0 : n < 0
      · rw [if_pos ⟨by omega, .inl hn0⟩] at hX
        simp (maxSteps := 1000000) (disch := first | omega | (simp only [sizeAlloc, sizeDrew, sizeSet, sizePut] <;> omega) | fail) only [GS, TT_eq, TTl, Nat.reduceAdd, Nat.reduceMul, Nat.reduceSub, Nat.reduceDiv, Nat.reduceMod, Nat.reducePow, Nat.reduceEqDiff, ↓reduceIte, reduceCtorEq, Int.reduceToNat, Int.reduceAdd, Int.reduceSub, Int.reduceMul, hk, hn0]
        refine ⟨fok76, eMust_cps true 7 _ _ (fun _ => .inl ⟨_, rfl, hold_ops okT (rs := [.tmp 4]) rfl ?_⟩) (fun h => absurd h (by simp))⟩
        simp (maxSteps := 1000000) (disch := first | omega | (simp only [sizeAlloc, sizeDrew, sizeSet, sizePut] <;> omega) | fail) only [GS, TT_eq, TTl, Nat.reduceAdd, Nat.reduceMul, Nat.reduceSub, Nat.reduceDiv, Nat.reduceMod, Nat.reducePow, Nat.reduceEqDiff, ↓reduceIte, reduceCtorEq, Int.reduceToNat, Int.reduceAdd, Int.reduceSub, Int.reduceMul]
        exact h1 _ _ _ hX.symm hown2 hM
      · by_cases h2 : (((partsS S).length : Nat) : Int) = n
        · rw [if_pos ⟨by omega, .inr h2⟩] at hX
          simp (maxSteps := 1000000) (disch := first | omega | (simp only [sizeAlloc, sizeDrew, sizeSet, sizePut] <;> omega) | fail) only [GS, TT_eq, TTl, Nat.reduceAdd, Nat.reduceMul, Nat.reduceSub, Nat.reduceDiv, Nat.reduceMod, Nat.reducePow, Nat.reduceEqDiff, ↓reduceIte, reduceCtorEq, Int.reduceToNat, Int.reduceAdd, Int.reduceSub, Int.reduceMul, hk, hn0, h2]
          refine ⟨fok76, eMust_cps true 7 _ _ (fun _ => .inl ⟨_, rfl, hold_ops okT (rs := [.tmp 4]) rfl ?_⟩) (fun h => absurd h (by simp))⟩
          simp (maxSteps := 1000000) (disch := first | omega | (simp only [sizeAlloc, sizeDrew, sizeSet, sizePut] <;> omega) | fail) only [GS, TT_eq, TTl, Nat.reduceAdd, Nat.reduceMul, Nat.reduceSub, Nat.reduceDiv, Nat.reduceMod, Nat.reducePow, Nat.reduceEqDiff, ↓reduceIte, reduceCtorEq, Int.reduceToNat, Int.reduceAdd, Int.reduceSub, Int.reduceMul]
          exact h1 _ _ _ hX.symm hown2 hM
        · rw [if_neg (fun h => by omega)] at hX
          simp (maxSteps := 1000000) (disch := first | omega | (simp only [sizeAlloc, sizeDrew, sizeSet, sizePut] <;> omega) | fail) only [GS, TT_eq, TTl, Nat.reduceAdd, Nat.reduceMul, Nat.reduceSub, Nat.reduceDiv, Nat.reduceMod, Nat.reducePow, Nat.reduceEqDiff, ↓reduceIte, reduceCtorEq, Int.reduceToNat, Int.reduceAdd, Int.reduceSub, Int.reduceMul, hk, hn0, h2]
          refine ⟨fok76, eMust_cps false 7 _ _ (fun h => absurd h (by simp)) (fun _ => .inr ⟨_, rfl, hold_ex okT (rs := [.tmp 4]) rfl ?_⟩)⟩
          simp (maxSteps := 1000000) (disch := first | omega | (simp only [sizeAlloc, sizeDrew, sizeSet, sizePut] <;> omega) | fail) only [GS, TT_eq, TTl, Nat.reduceAdd, Nat.reduceMul, Nat.reduceSub, Nat.reduceDiv, Nat.reduceMod, Nat.reducePow, Nat.reduceEqDiff, ↓reduceIte, reduceCtorEq, Int.reduceToNat, Int.reduceAdd, Int.reduceSub, Int.reduceMul]
          exact h0 hX.symm _ hM
    · rw [if_neg (fun h => hk (by have := h.1; omega))] at hX
      simp (maxSteps := 1000000) (disch := first | omega | (simp only [sizeAlloc, sizeDrew, sizeSet, sizePut] <;> omega) | fail) only [GS, TT_eq, TTl, Nat.reduceAdd, Nat.reduceMul, Nat.reduceSub, Nat.reduceDiv, Nat.reduceMod, Nat.reducePow, Nat.reduceEqDiff, ↓reduceIte, reduceCtorEq, Int.reduceToNat, Int.reduceAdd, Int.reduceSub, Int.reduceMul, hk]
      refine ⟨fok76, eMust_cps false 7 _ _ (fun h => absurd h (by simp)) (fun _ => .inr ⟨_, rfl, hold_ex okT (rs := [.tmp 4]) rfl ?_⟩)⟩
      simp (maxSteps := 1000000) (disch := first | omega | (simp only [sizeAlloc, sizeDrew, sizeSet, sizePut] <;> omega) | fail) only [GS, TT_eq, TTl, Nat.reduceAdd, Nat.reduceMul, Nat.reduceSub, Nat.reduceDiv, Nat.reduceMod, Nat.reducePow, Nat.reduceEqDiff, ↓reduceIte, reduceCtorEq, Int.reduceToNat, Int.reduceAdd, Int.reduceSub, Int.reduceMul]
      exact h0 hX.symm _ hM
theorem eBad_cps (s : List UInt8) (hs : s.length ≤ maxLen) (w : World) (R : Ending → World → Prop) (hR : ∀ w', Mod [] w w' → R (.returned (.bool (decide (¬ checkS s = 0)))) w') : Calls Tryz.prog 71 #[.string ⟨s.toArray⟩] w R := by
  refine calls_go 4000 okT Tryz.func71 rfl (rs := [.tmp 2]) rfl Tryz.ntmps71 (args := [.string ⟨s.toArray⟩]) ?_
  simp (maxSteps := 1000000) (disch := first | omega | (simp only [sizeAlloc, sizeDrew, sizeSet, sizePut] <;> omega) | fail) only [GS, TT_eq, TTl, Nat.reduceAdd, Nat.reduceMul, Nat.reduceSub, Nat.reduceDiv, Nat.reduceMod, Nat.reducePow, Nat.reduceEqDiff, ↓reduceIte, reduceCtorEq, Int.reduceToNat, Int.reduceAdd, Int.reduceSub, Int.reduceMul]
  refine ⟨fok72, tCheck_cps s hs _ _ fun w1 hM => .inl ⟨_, rfl, hold_ops okT (rs := [.tmp 2]) rfl ?_⟩⟩
  by_cases h : checkS s = 0
  · rw [decide_eq_false (fun g => g h)] at hR
    simp (maxSteps := 1000000) (disch := first | omega | (simp only [sizeAlloc, sizeDrew, sizeSet, sizePut] <;> omega) | fail) only [GS, TT_eq, TTl, Nat.reduceAdd, Nat.reduceMul, Nat.reduceSub, Nat.reduceDiv, Nat.reduceMod, Nat.reducePow, Nat.reduceEqDiff, ↓reduceIte, reduceCtorEq, Int.reduceToNat, Int.reduceAdd, Int.reduceSub, Int.reduceMul, h]
    exact hR _ hM
  · rw [decide_eq_true h] at hR
    simp (maxSteps := 1000000) (disch := first | omega | (simp only [sizeAlloc, sizeDrew, sizeSet, sizePut] <;> omega) | fail) only [GS, TT_eq, TTl, Nat.reduceAdd, Nat.reduceMul, Nat.reduceSub, Nat.reduceDiv, Nat.reduceMod, Nat.reducePow, Nat.reduceEqDiff, ↓reduceIte, reduceCtorEq, Int.reduceToNat, Int.reduceAdd, Int.reduceSub, Int.reduceMul, h]
    exact hR _ hM
theorem eIdx_cps (sa : Value) (xs : List (List UInt8)) (w : World) (R : Ending → World → Prop) (hx : xs.length ≤ 9223372036854775807) (hz : ∀ s ∈ xs, s.length ≤ maxLen) (ha : Rd w 1 sa xs.length (xs.map strV))
    (hR : ∀ i w', (0 ≤ i ↔ allS xs = false) → Mod [] w w' → R (.returned (.int .i64 i)) w') : Calls Tryz.prog 70 #[sa, .func (.func 71) #[] #[]] w R := by
  obtain ⟨a, ca, rfl⟩ := ha.slice
  refine calls_go 4000 okT Tryz.func70 rfl (rs := [.tmp 4]) rfl Tryz.ntmps70 (args := [.slice a xs.length ca, .func (.func 71) #[] #[]]) ?_
  simp (maxSteps := 1000000) (disch := first | omega | (simp only [sizeAlloc, sizeDrew, sizeSet, sizePut] <;> omega) | fail) only [GS, TT_eq, TTl, Nat.reduceAdd, Nat.reduceMul, Nat.reduceSub, Nat.reduceDiv, Nat.reduceMod, Nat.reducePow, Nat.reduceEqDiff, ↓reduceIte, reduceCtorEq, Int.reduceToNat, Int.reduceAdd, Int.reduceSub, Int.reduceMul]
  refine hold_loop okT (rs := [.tmp 4]) rfl [8] [4, 5, 9, 10, 11, 12, 13, 14, 15, 16, 17, 18] (fun vs w' => ∃ k : Nat, k ≤ xs.length ∧ vs = [.int .i64 k] ∧ Mod [] w w' ∧ ∀ s ∈ xs.take k, checkS s = 0) (fun vs _ => match vs with | [.int _ i] => xs.length - i.toNat | _ => 0) (by kernel_rfl) ⟨0, by omega, rfl, Mod.refl _ _, by simp⟩ ?_
  rintro vs w1 J ⟨k, hk, rfl, hM, hn⟩
  by_cases hlt : k < xs.length
  · obtain ⟨b1, o1, c1, e1, _, g1⟩ := (ha.mod hM (by simp)).at (by omega) (by omega)
    have f1 := g1 k _ (getS hlt)
    rw [Value.slice.injEq] at e1
    obtain ⟨rfl, -, -⟩ := e1
    have htk := List.take_succ_eq_append_getElem hlt
    have hmem := List.getElem_mem hlt
    generalize xs[k] = t at f1 htk hmem
    simp (maxSteps := 1000000) (disch := first | omega | (simp only [sizeAlloc, sizeDrew, sizeSet, sizePut] <;> omega) | fail) only [GS, TT_eq, TTl, Nat.reduceAdd, Nat.reduceMul, Nat.reduceSub, Nat.reduceDiv, Nat.reduceMod, Nat.reducePow, Nat.reduceEqDiff, ↓reduceIte, reduceCtorEq, Int.reduceToNat, Int.reduceAdd, Int.reduceSub, Int.reduceMul, f1]
    refine ⟨fok71, eBad_cps t (hz t hmem) _ _ fun w2 hM2 => .inl ⟨_, rfl, hold_ops okT (rs := [.tmp 4]) rfl ?_⟩⟩
    by_cases hc : checkS t = 0
    · simp (maxSteps := 1000000) (disch := first | omega | (simp only [sizeAlloc, sizeDrew, sizeSet, sizePut] <;> omega) | fail) only [GS, TT_eq, TTl, Nat.reduceAdd, Nat.reduceMul, Nat.reduceSub, Nat.reduceDiv, Nat.reduceMod, Nat.reducePow, Nat.reduceEqDiff, ↓reduceIte, reduceCtorEq, Int.reduceToNat, Int.reduceAdd, Int.reduceSub, Int.reduceMul, hc, not_true_eq_false, decide_false]
      refine ⟨⟨k + 1, by omega, rfl, hM.trans hM2 (by simp), ?_⟩, by omega⟩
      rw [htk]
      intro s hs
      rcases List.mem_append.1 hs with hs | hs
      · exact hn s hs
      · rw [List.mem_singleton.1 hs]; exact hc
    · simp (maxSteps := 1000000) (disch := first | omega | (simp only [sizeAlloc, sizeDrew, sizeSet, sizePut] <;> omega) | fail) only [GS, TT_eq, TTl, Nat.reduceAdd, Nat.reduceMul, Nat.reduceSub, Nat.reduceDiv, Nat.reduceMod, Nat.reducePow, Nat.reduceEqDiff, ↓reduceIte, reduceCtorEq, Int.reduceToNat, Int.reduceAdd, Int.reduceSub, Int.reduceMul, hc, not_false_eq_true, decide_true]
      refine hR k _ ⟨fun _ => ?_, fun _ => by omega⟩ (hM.trans hM2 (by simp))
      unfold allS
      rw [List.all_eq_false]
      exact ⟨t, hmem, by simpa using hc⟩
  · have e : k = xs.length := by omega
    subst e
    rw [List.take_length] at hn
    simp (maxSteps := 1000000) (disch := first | omega | (simp only [sizeAlloc, sizeDrew, sizeSet, sizePut] <;> omega) | fail) only [GS, TT_eq, TTl, Nat.reduceAdd, Nat.reduceMul, Nat.reduceSub, Nat.reduceDiv, Nat.reduceMod, Nat.reducePow, Nat.reduceEqDiff, ↓reduceIte, reduceCtorEq, Int.reduceToNat, Int.reduceAdd, Int.reduceSub, Int.reduceMul]
    refine hR (-1) _ ⟨fun h => by omega, fun h => ?_⟩ hM
    have : allS xs = true := by unfold allS; rw [List.all_eq_true]; intro s hs; simp [hn s hs]
    rw [this] at h
    simp at h
theorem eCont_cps (sa : Value) (xs : List (List UInt8)) (w : World) (R : Ending → World → Prop) (hx : xs.length ≤ 9223372036854775807) (hz : ∀ s ∈ xs, s.length ≤ maxLen) (ha : Rd w 1 sa xs.length (xs.map strV))
    (hR : ∀ w', Mod [] w w' → R (.returned (.bool (!allS xs))) w') : Calls Tryz.prog 33 #[sa, .func (.func 71) #[] #[]] w R := by
  refine calls_go 4000 okT Tryz.func33 rfl (rs := [.tmp 4]) rfl Tryz.ntmps33 (args := [sa, .func (.func 71) #[] #[]]) ?_
  simp (maxSteps := 1000000) (disch := first | omega | (simp only [sizeAlloc, sizeDrew, sizeSet, sizePut] <;> omega) | fail) only [GS, TT_eq, TTl, Nat.reduceAdd, Nat.reduceMul, Nat.reduceSub, Nat.reduceDiv, Nat.reduceMod, Nat.reducePow, Nat.reduceEqDiff, ↓reduceIte, reduceCtorEq, Int.reduceToNat, Int.reduceAdd, Int.reduceSub, Int.reduceMul]
  refine ⟨fok70, eIdx_cps sa xs _ _ hx hz ha fun i w1 hi hM => .inl ⟨_, rfl, hold_ops okT (rs := [.tmp 4]) rfl ?_⟩⟩
  cases hs : allS xs
  · have h0 : 0 ≤ i := hi.2 hs
    rw [hs] at hR
    simp (maxSteps := 1000000) (disch := first | omega | (simp only [sizeAlloc, sizeDrew, sizeSet, sizePut] <;> omega) | fail) only [GS, TT_eq, TTl, Nat.reduceAdd, Nat.reduceMul, Nat.reduceSub, Nat.reduceDiv, Nat.reduceMod, Nat.reducePow, Nat.reduceEqDiff, ↓reduceIte, reduceCtorEq, Int.reduceToNat, Int.reduceAdd, Int.reduceSub, Int.reduceMul, h0]
    exact hR _ hM
  · have h0 : ¬ 0 ≤ i := fun h => by have := hi.1 h; rw [hs] at this; simp at this
    rw [hs] at hR
    simp (maxSteps := 1000000) (disch := first | omega | (simp only [sizeAlloc, sizeDrew, sizeSet, sizePut] <;> omega) | fail) only [GS, TT_eq, TTl, Nat.reduceAdd, Nat.reduceMul, Nat.reduceSub, Nat.reduceDiv, Nat.reduceMod, Nat.reducePow, Nat.reduceEqDiff, ↓reduceIte, reduceCtorEq, Int.reduceToNat, Int.reduceAdd, Int.reduceSub, Int.reduceMul, h0]
    exact hR _ hM
/-- A receipt. -/
structure Rcp where
  tx : Tx
  aud : Int
  mbs : List Mb
  tags : List (List UInt8)
def rcC (r : Rcp) (sm st : Value) : List Value := [.int .i64 r.tx.1, .int .i64 r.tx.2.1, .int .i64 r.tx.2.2, .int .i64 r.aud, sm, st]
def rcV (r : Rcp) (sm st : Value) : Value := .agg (rcC r sm st).toArray
def mayR (r : Rcp) : Bool := txB r.tx && orgB r.aud && mbB r.tx.1 r.mbs && decide (r.tags.length = r.mbs.length) && allS r.tags
/-- What is known of a receipt that is read. -/
structure RcpIn (w : World) (r : Rcp) (sm st : Value) : Prop where
  aud : I64 r.aud
  mlen : r.mbs.length ≤ 1000000
  mdig : ∀ x ∈ r.mbs, x.2.length ≤ maxLen
  mrd : Rd w 2 sm r.mbs.length (r.mbs.flatMap mbC)
  tlen : r.tags.length ≤ 1000000
  tdig : ∀ x ∈ r.tags, x.length ≤ maxLen
  trd : Rd w 1 st r.tags.length (r.tags.map strV)
theorem RcpIn.mod {w w' : World} {r : Rcp} {sm st : Value} (h : RcpIn w r sm st) (hM : Mod [] w w') : RcpIn w' r sm st := ⟨h.aud, h.mlen, h.mdig, h.mrd.mod hM (by simp), h.tlen, h.tdig, h.trd.mod hM (by simp)⟩
theorem eCheck_cps (r : Rcp) (sm st : Value) (w : World) (hr : RcpIn w r sm st) (R : Ending → World → Prop) (hR : ∀ w', Mod [] w w' → R (.returned (.int .i64 (if mayR r = true then 0 else 2))) w') : Calls Tryz.prog 35 #[rcV r sm st] w R := by
  obtain ⟨haud, hml, hmd, hmr, htl, htd, htr⟩ := hr
  have hMT := wMayTxn_cps r.tx
  have hMM := wMayMembers_cps r.tx sm r.mbs
  have hCF := eCont_cps st r.tags
  unfold mayR at hR
  obtain ⟨⟨a, b, c⟩, aud, mbs, tags⟩ := r
  obtain ⟨pm, cm, rfl⟩ := hmr.slice
  obtain ⟨pt, ct, rfl⟩ := htr.slice
  unfold txV at hMT hMM
  unfold rcV rcC
  simp only at hR haud hml hmd hmr htl htd htr hMT hMM hCF ⊢
  refine calls_go 4000 okT Tryz.func35 rfl (rs := [.tmp 2]) rfl Tryz.ntmps35 (args := [.agg #[.int .i64 a, .int .i64 b, .int .i64 c, .int .i64 aud, .slice pm mbs.length cm, .slice pt tags.length ct]]) ?_
  simp (maxSteps := 1000000) (disch := first | omega | (simp only [sizeAlloc, sizeDrew, sizeSet, sizePut] <;> omega) | fail) only [GS, TT_eq, TTl, Nat.reduceAdd, Nat.reduceMul, Nat.reduceSub, Nat.reduceDiv, Nat.reduceMod, Nat.reducePow, Nat.reduceEqDiff, ↓reduceIte, reduceCtorEq, Int.reduceToNat, Int.reduceAdd, Int.reduceSub, Int.reduceMul]
  have hM0 := (Mod.refl [] w).alloc (.cells #[.int .i64 a, .int .i64 b, .int .i64 c, .int .i64 aud, .slice pm mbs.length cm, .slice pt tags.length ct] 27)
  have hA := heapNew (w := w) (o := (.cells #[.int .i64 a, .int .i64 b, .int .i64 c, .int .i64 aud, .slice pm mbs.length cm, .slice pt tags.length ct] 27))
  generalize w.alloc (.cells #[.int .i64 a, .int .i64 b, .int .i64 c, .int .i64 aud, .slice pm mbs.length cm, .slice pt tags.length ct] 27) = w1 at hM0 hA ⊢
  generalize hn : w.heap.size = n at *
  refine ⟨fok73, hMT _ _ fun w2 hM2 => .inl ⟨_, rfl, hold_ops okT (rs := [.tmp 2]) rfl ?_⟩⟩
  have hA2 := hM2.get hA (by simp)
  have c2 := fun o => cellOf (o := o) hA2
  have hM02 := hM0.trans hM2 (by simp)
  cases ht : txB (a, b, c)
  · simp only [ht, Bool.false_and, Bool.false_eq_true, if_false] at hR
    simp (maxSteps := 1000000) (disch := first | omega | (simp only [sizeAlloc, sizeDrew, sizeSet, sizePut] <;> omega) | fail) only [GS, TT_eq, TTl, Nat.reduceAdd, Nat.reduceMul, Nat.reduceSub, Nat.reduceDiv, Nat.reduceMod, Nat.reducePow, Nat.reduceEqDiff, ↓reduceIte, reduceCtorEq, Int.reduceToNat, Int.reduceAdd, Int.reduceSub, Int.reduceMul, c2]
    exact hR _ hM02
  by_cases h0 : aud < 0
  · have ho : orgB aud = false := by unfold orgB; exact decide_eq_false (by omega)
    simp only [ho, Bool.and_false, Bool.false_and, Bool.false_eq_true, if_false] at hR
    simp (maxSteps := 1000000) (disch := first | omega | (simp only [sizeAlloc, sizeDrew, sizeSet, sizePut] <;> omega) | fail) only [GS, TT_eq, TTl, Nat.reduceAdd, Nat.reduceMul, Nat.reduceSub, Nat.reduceDiv, Nat.reduceMod, Nat.reducePow, Nat.reduceEqDiff, ↓reduceIte, reduceCtorEq, Int.reduceToNat, Int.reduceAdd, Int.reduceSub, Int.reduceMul, c2, h0]
    exact hR _ hM02
  by_cases h8 : 8 ≤ aud
  · have ho : orgB aud = false := by unfold orgB; exact decide_eq_false (by omega)
    simp only [ho, Bool.and_false, Bool.false_and, Bool.false_eq_true, if_false] at hR
    simp (maxSteps := 1000000) (disch := first | omega | (simp only [sizeAlloc, sizeDrew, sizeSet, sizePut] <;> omega) | fail) only [GS, TT_eq, TTl, Nat.reduceAdd, Nat.reduceMul, Nat.reduceSub, Nat.reduceDiv, Nat.reduceMod, Nat.reducePow, Nat.reduceEqDiff, ↓reduceIte, reduceCtorEq, Int.reduceToNat, Int.reduceAdd, Int.reduceSub, Int.reduceMul, c2, h0, h8]
    exact hR _ hM02
  have ho : orgB aud = true := by unfold orgB; exact decide_eq_true (by omega)
  simp (maxSteps := 1000000) (disch := first | omega | (simp only [sizeAlloc, sizeDrew, sizeSet, sizePut] <;> omega) | fail) only [GS, TT_eq, TTl, Nat.reduceAdd, Nat.reduceMul, Nat.reduceSub, Nat.reduceDiv, Nat.reduceMod, Nat.reducePow, Nat.reduceEqDiff, ↓reduceIte, reduceCtorEq, Int.reduceToNat, Int.reduceAdd, Int.reduceSub, Int.reduceMul, c2, h0, h8]
  refine ⟨fok74, hMM _ _ hml hmd (hmr.mod hM02 (by simp)) fun w3 hM3 => .inl ⟨_, rfl, hold_ops okT (rs := [.tmp 2]) rfl ?_⟩⟩
  have hA3 := hM3.get hA2 (by simp)
  have c3 := fun o => cellOf (o := o) hA3
  have hM03 := hM02.trans hM3 (by simp)
  cases hm : mbB a mbs
  · simp only [hm, Bool.and_false, Bool.false_and, Bool.false_eq_true, if_false] at hR
    simp (maxSteps := 1000000) (disch := first | omega | (simp only [sizeAlloc, sizeDrew, sizeSet, sizePut] <;> omega) | fail) only [GS, TT_eq, TTl, Nat.reduceAdd, Nat.reduceMul, Nat.reduceSub, Nat.reduceDiv, Nat.reduceMod, Nat.reducePow, Nat.reduceEqDiff, ↓reduceIte, reduceCtorEq, Int.reduceToNat, Int.reduceAdd, Int.reduceSub, Int.reduceMul, c3]
    exact hR _ hM03
  by_cases hl : ((tags.length : Nat) : Int) = ((mbs.length : Nat) : Int)
  rotate_left
  · rw [decide_eq_false (fun h => hl (by omega))] at hR
    simp only [Bool.and_false, Bool.false_and, Bool.false_eq_true, if_false] at hR
    simp (maxSteps := 1000000) (disch := first | omega | (simp only [sizeAlloc, sizeDrew, sizeSet, sizePut] <;> omega) | fail) only [GS, TT_eq, TTl, Nat.reduceAdd, Nat.reduceMul, Nat.reduceSub, Nat.reduceDiv, Nat.reduceMod, Nat.reducePow, Nat.reduceEqDiff, ↓reduceIte, reduceCtorEq, Int.reduceToNat, Int.reduceAdd, Int.reduceSub, Int.reduceMul, c3, hl]
    exact hR _ hM03
  rw [decide_eq_true (show tags.length = mbs.length by omega)] at hR
  simp (maxSteps := 1000000) (disch := first | omega | (simp only [sizeAlloc, sizeDrew, sizeSet, sizePut] <;> omega) | fail) only [GS, TT_eq, TTl, Nat.reduceAdd, Nat.reduceMul, Nat.reduceSub, Nat.reduceDiv, Nat.reduceMod, Nat.reducePow, Nat.reduceEqDiff, ↓reduceIte, reduceCtorEq, Int.reduceToNat, Int.reduceAdd, Int.reduceSub, Int.reduceMul, c3, hl]
  refine ⟨fok33, hCF _ _ (by omega) htd (htr.mod hM03 (by simp)) fun w4 hM4 => .inl ⟨_, rfl, hold_ops okT (rs := [.tmp 2]) rfl ?_⟩⟩
  have hM04 := hM03.trans hM4 (by simp)
  cases hs : allS tags
  · simp only [hs, Bool.and_false, Bool.false_eq_true, if_false] at hR
    simp (maxSteps := 1000000) (disch := first | omega | (simp only [sizeAlloc, sizeDrew, sizeSet, sizePut] <;> omega) | fail) only [GS, TT_eq, TTl, Nat.reduceAdd, Nat.reduceMul, Nat.reduceSub, Nat.reduceDiv, Nat.reduceMod, Nat.reducePow, Nat.reduceEqDiff, ↓reduceIte, reduceCtorEq, Int.reduceToNat, Int.reduceAdd, Int.reduceSub, Int.reduceMul, Bool.not_false]
    exact hR _ hM04
  · simp only [ht, ho, hm, hs, Bool.and_true, if_true] at hR
    simp (maxSteps := 1000000) (disch := first | omega | (simp only [sizeAlloc, sizeDrew, sizeSet, sizePut] <;> omega) | fail) only [GS, TT_eq, TTl, Nat.reduceAdd, Nat.reduceMul, Nat.reduceSub, Nat.reduceDiv, Nat.reduceMod, Nat.reducePow, Nat.reduceEqDiff, ↓reduceIte, reduceCtorEq, Int.reduceToNat, Int.reduceAdd, Int.reduceSub, Int.reduceMul, Bool.not_true]
    exact hR _ hM04
theorem keysB_all {k : K} : ∀ (l : List Value), keysB k l = true → ∀ x ∈ l, Wk.keyB k x = true
  | [], _, x, hx => by simp at hx
  | y :: l, h, x, hx => by
    simp only [keysB] at h
    cases hk : Wk.keyB k y with
    | false => rw [hk] at h; simp at h
    | true =>
      rw [hk] at h
      simp only [cond_true] at h
      rcases List.mem_cons.1 hx with rfl | hx
      · exact hk
      · exact keysB_all l h x hx
theorem update_run {P : Program} {T : Tab} (hP : Ok P T) {w : World} {r t kt et clock : Nat} {es : Array MapEntry} {ik : IntKind} {n : Int} {v : Value} {j : Nat} {e : MapEntry} (hk : kOf T t = .map kt et) (hb : w.heap[r]? = some (.map es clock)) (hi : Wk.keyB (kOf T kt) (.int ik n) = true)
    (hf : Instr.findNow (descK (kOf T kt)) (.int ik n) es.toList 0 = some (some (j, e.val))) (hj : es.toList[j]? = some e) (he : e.key = .int ik n) :
    (Instr.mapUpdate t (.map (some r)) (.int ik n) v).run P w = .ok () (w.putObj r (.map (es.modify j fun e => { e with key := .int ik n, val := v }) clock)) := by
  have hu : P.underlying t = some (.map kt et) := by have := kOk_of hP hk (by simp); exact this
  have hd := under_key hP hi
  have hj' : es[j]? = some e := by rw [← Array.getElem?_toList]; exact hj
  have hs : ((es[j]?).map (·.key)).getD (.int ik n) = .int ik n := by rw [hj']; exact he
  have hsb : Instr.sameBits 10000 (.int ik n) (.int ik n) = true := by simp [Instr.sameBits]
  have hkt : (Instr.keyThatStays (((es[j]?).map (·.key)).getD (.int ik n)) (.int ik n)).run P w = .ok (.int ik n) w := by
    rw [hs]
    unfold Instr.keyThatStays
    rw [if_pos hsb]
    rfl
  simp [Instr.mapUpdate, run_underlying hu, MapKept.run_getObj_map hb, MapKept.run_checkKey hd (isKey_of hi), MapKept.run_findKey hd hf, hkt, MapKept.run_setObj_map _ hb, Result.andThen, World.putObj]
theorem modify_list {α : Type} (f : α → α) : ∀ (l : List α) (j : Nat) (e : α), l[j]? = some e → l.modify j f = l.set j (f e)
  | [], j, e, h => by simp at h
  | x :: l, 0, e, h => by simp at h; subst h; rfl
  | x :: l, j + 1, e, h => by
    simp only [List.getElem?_cons_succ] at h
    have := modify_list f l j e h
    simp [List.modify_succ_cons, this]
theorem map_set_same {α β : Type} (f : α → β) : ∀ (l : List α) (j : Nat) (e y : α), l[j]? = some e → f y = f e → (l.set j y).map f = l.map f
  | [], j, e, y, h, _ => by simp at h
  | x :: l, 0, e, y, h, hf => by simp at h; subst h; simp [hf]
  | x :: l, j + 1, e, y, h, hf => by
    simp only [List.getElem?_cons_succ] at h
    have := map_set_same f l j e y h hf
    simp [this]
/-- 'm[i] = v' of a key that the map has. -/
theorem hold_updateW {P : Program} {T : Tab} (hP : Ok P T) {V : Env} {R : Ending → World → Prop} {F : Exit → Act → World → Prop} {all rest : List Oper} {o : Oper} {k : List KI} {fs : List Value} {w : World} {t kt et r : Nat} {m x y : Operand} {ik : IntKind} {n : Int} {v : Value} {l : List (Value × Value)}
    (ho : o.op = .mapUpdate t m x y) (hk : kOf T t = .map kt et) (hm : ev fs m = .map (some r)) (hx : ev fs x = .int ik n) (hy : ev fs y = v) (hl : MapW w r l) (hi : Wk.keyB (kOf T kt) (.int ik n) = true) (hks : keysB (kOf T kt) (l.map (·.1)) = true) (hyes : mfind (.int ik n) l ≠ none)
    (h : ∀ j u w', l[j]? = some (.int ik n, u) → MapW w' r (l.set j (.int ik n, v)) → Mod [r] w w' → Hold P T V R F (.ops all rest) k (put fs o.dst undef) w') : Hold P T V R F (.gop .run all o rest) k fs w := by
  obtain ⟨es, c, h1, rfl, h3, h4⟩ := hl
  have hall : ∀ x ∈ es.toList, MapKept.IsKey (descK (kOf T kt)) x.key := fun x hx => isKey_of (keysB_all _ hks x.key (by
    unfold entriesOf
    rw [List.map_map]
    exact List.mem_map.2 ⟨x, hx, rfl⟩))
  rcases MapKept.findNow_spec (isKey_of hi) es.toList 0 hall with ⟨hf, _⟩ | ⟨j, e, hf, hj, he⟩
  · have := find_m hi es.toList 0 hks
    unfold entriesOf at hyes
    cases hq : mfind (.int ik n) (es.toList.map fun e => (e.key, e.val)) with
    | none => exact absurd hq hyes
    | some u =>
      rw [hq] at this
      simp only at this
      obtain ⟨j, hj⟩ := this
      rw [hf] at hj
      simp at hj
  · rw [Nat.zero_add] at hf
    have hml : (es.modify j fun e => { e with key := .int ik n, val := v }).toList = es.toList.set j { e with key := .int ik n, val := v } := by
      rw [Array.toList_modify]
      exact modify_list _ _ _ _ hj
    have hmw : MapW (w.putObj r (.map (es.modify j fun e => { e with key := .int ik n, val := v }) c)) r ((entriesOf es).set j (.int ik n, v)) := by
      refine ⟨_, c, heapPe h1, ?_, ?_, ?_⟩
      · unfold entriesOf
        rw [hml, List.map_set]
      · intro x hx
        rw [hml] at hx
        rcases List.mem_or_eq_of_mem_set hx with hx | rfl
        · exact h3 x hx
        · exact h3 e (List.mem_of_getElem? hj)
      · rw [hml, map_set_same (fun x : MapEntry => x.born) es.toList j e { e with key := .int ik n, val := v } hj rfl]
        exact h4
    refine hold_skip (w' := w.putObj r (.map (es.modify j fun e => { e with key := .int ik n, val := v }) c)) (fun c => by rw [ho]; simp) ?_ (h j e.val _ ?_ hmw ((Mod.refl _ _).put (.inl (by simp)) _))
    · have hrun := update_run hP (v := v) hk h1 hi hf hj he
      obtain ⟨dst, op, ty, pos, aft, g⟩ := o
      simp only at ho; subst ho
      simp only [execOp, ev_eq, hm, hx, hy, Sem.run_bind, hrun, Result.andThen_ok, Sem.run_pure]
    · unfold entriesOf
      rw [List.getElem?_map, hj, ← he]
      rfl
theorem etryD_ret (p : Value) (w : World) (R : Ending → FrameMode → World → Prop) (hR : R (.returned (.tuple #[])) .returning w) :
    CallsR Tryz.prog 75 #[p] .returning w R := by
  refine callsDIn_of_wpSIn Tryz.func75 rfl (by trivial) fun c₀ cs hu => ?_
  apply wpSIn_seq
  apply wpSIn_region
  simp [wpOpsSIn, go_sem, recoverD, hu, Tryz.ntmps75, Exit.thenS]
  have e : c₀ = { c₀ with mode := .returning } := by cases c₀; simp only at hu; subst hu; rfl
  rw [e]
  refine wpS_go (fs := [p, .nilIface, undef, undef, .nilIface, undef, undef, undef, undef, undef, undef, undef, undef, undef, undef, undef, undef]) okT (rs := []) rfl ?_
  simp (maxSteps := 1000000) (disch := first | omega | (simp only [sizeAlloc, sizeDrew, sizeSet, sizePut] <;> omega) | fail) only [GS, TT_eq, TTl, Nat.reduceAdd, Nat.reduceMul, Nat.reduceSub, Nat.reduceDiv, Nat.reduceMod, Nat.reducePow, Nat.reduceEqDiff, ↓reduceIte, reduceCtorEq, Int.reduceToNat, Int.reduceAdd, Int.reduceSub, Int.reduceMul]
  unfold recEnd
  simp (maxSteps := 1000000) (disch := first | omega | (simp only [sizeAlloc, sizeDrew, sizeSet, sizePut] <;> omega) | fail) only [GS, TT_eq, TTl, Nat.reduceAdd, Nat.reduceMul, Nat.reduceSub, Nat.reduceDiv, Nat.reduceMod, Nat.reducePow, Nat.reduceEqDiff, ↓reduceIte, reduceCtorEq, Int.reduceToNat, Int.reduceAdd, Int.reduceSub, Int.reduceMul]
  exact hR
def rwD (e : Int) : List PanicEntry := [{ v := .iface 150 (.agg #[.int .i64 e]), recovered := true }]
theorem etryD_pan (e : Int) (a : Nat) (x : Value) (ta : Nat) (w : World) (hA : w.heap[a]? = some (.cells #[x] ta (0, 0))) (R : Ending → FrameMode → World → Prop)
    (hR : ∀ w', w'.heap[a]? = some (.cells #[.int .i64 e] ta (0, 0)) → Mod [a] w w' → R (.returned (.tuple #[])) (.panicking (rwD e)) w') :
    CallsR Tryz.prog 75 #[.pointer (some ⟨a, 0, none⟩)] (.panicking (rwV e)) w R := by
  refine callsDIn_of_wpSIn Tryz.func75 rfl (by trivial) fun c₀ cs hu => ?_
  apply wpSIn_seq
  apply wpSIn_region
  unfold rwV at hu
  simp [wpOpsSIn, go_sem, recoverD, hu, Tryz.ntmps75, Exit.thenS]
  refine wpS_go (u := .panicking (rwD e)) (fs := [.pointer (some ⟨a, 0, none⟩), .iface 150 (.agg #[.int .i64 e]), undef, undef, .iface 150 (.agg #[.int .i64 e]), undef, undef, undef, undef, undef, undef, undef, undef, undef, undef, undef, undef]) okT (rs := []) rfl ?_
  have hA1 : (w.alloc (.cells #[.int .i64 0] 150)).heap[a]? = _ := heapAlloc hA
  have hca : (w.alloc (.cells #[.int .i64 0] 150)).cell? ⟨a, 0, none⟩ = some x := by rw [cellOf hA1]; rfl
  have hfa := frozenOf (o := 0) hA1
  have hal := (Array.getElem?_eq_some_iff.1 hA).1
  have hA2 : ((w.alloc (.cells #[.int .i64 0] 150)).setCell ⟨w.heap.size, 0, none⟩ (.int .i64 e)).heap[a]? = _ := heapSetNe hA1 (by omega)
  have hca2 : ((w.alloc (.cells #[.int .i64 0] 150)).setCell ⟨w.heap.size, 0, none⟩ (.int .i64 e)).cell? ⟨a, 0, none⟩ = some x := by rw [cellOf hA2]; rfl
  simp (maxSteps := 1000000) (disch := first | omega | (simp only [sizeAlloc, sizeDrew, sizeSet, sizePut] <;> omega) | fail) only [GS, TT_eq, TTl, Nat.reduceAdd, Nat.reduceMul, Nat.reduceSub, Nat.reduceDiv, Nat.reduceMod, Nat.reducePow, Nat.reduceEqDiff, ↓reduceIte, reduceCtorEq, Int.reduceToNat, Int.reduceAdd, Int.reduceSub, Int.reduceMul, hca, hfa, hca2]
  unfold recEnd
  simp (maxSteps := 1000000) (disch := first | omega | (simp only [sizeAlloc, sizeDrew, sizeSet, sizePut] <;> omega) | fail) only [GS, TT_eq, TTl, Nat.reduceAdd, Nat.reduceMul, Nat.reduceSub, Nat.reduceDiv, Nat.reduceMod, Nat.reducePow, Nat.reduceEqDiff, ↓reduceIte, reduceCtorEq, Int.reduceToNat, Int.reduceAdd, Int.reduceSub, Int.reduceMul]
  exact hR _ (heapSet hA2) ((((Mod.refl [a] w).alloc _).set (p := ⟨w.heap.size, 0, none⟩) (.inr (Nat.le_refl _)) _).set (p := ⟨a, 0, none⟩) (.inl (by simp)) _)
theorem eTry_cps (g : Nat) (cap : Array Value) (hg : FOk Tryz.prog g) (w : World) (R : Ending → World → Prop) (A : World → Prop) (B : Int → World → Prop)
    (hdo : Calls Tryz.prog g cap (w.alloc (.cells #[.int .i64 0] 29)) (fun e w' => (e = .returned (.tuple #[]) ∧ A w' ∨ (∃ c, e = .panicked (rwV c) ∧ B c w')) ∧ w'.heap[w.heap.size]? = some (.cells #[.int .i64 0] 29 (0, 0)) ∧ w.heap.size + 1 ≤ w'.heap.size))
    (hA : ∀ w1 w2, A w1 → Mod [w.heap.size] w1 w2 → R (.returned (.int .i64 0)) w2) (hB : ∀ c w1 w2, B c w1 → Mod [w.heap.size] w1 w2 → R (.returned (.int .i64 c)) w2) :
    Calls Tryz.prog 36 #[.func (.func g) #[] cap] w R := by
  refine calls_go 4000 okT Tryz.func36 rfl (rs := [.cell 2 29]) rfl Tryz.ntmps36 (args := [.func (.func g) #[] cap]) ?_
  simp (maxSteps := 1000000) (disch := first | omega | (simp only [sizeAlloc, sizeDrew, sizeSet, sizePut] <;> omega) | fail) only [GS, TT_eq, TTl, Nat.reduceAdd, Nat.reduceMul, Nat.reduceSub, Nat.reduceDiv, Nat.reduceMod, Nat.reducePow, Nat.reduceEqDiff, ↓reduceIte, reduceCtorEq, Int.reduceToNat, Int.reduceAdd, Int.reduceSub, Int.reduceMul]
  refine hold_defer rfl rfl (hold_ops okT (rs := [.cell 2 29]) rfl ?_)
  simp (maxSteps := 1000000) (disch := first | omega | (simp only [sizeAlloc, sizeDrew, sizeSet, sizePut] <;> omega) | fail) only [GS, TT_eq, TTl, Nat.reduceAdd, Nat.reduceMul, Nat.reduceSub, Nat.reduceDiv, Nat.reduceMod, Nat.reducePow, Nat.reduceEqDiff, ↓reduceIte, reduceCtorEq, Int.reduceToNat, Int.reduceAdd, Int.reduceSub, Int.reduceMul]
  rw [Array.toArray_toList]
  generalize hn : w.heap.size = n at *
  refine ⟨hg, callW_any hdo ?_⟩
  rintro e w1 ⟨⟨rfl, hA1⟩ | ⟨ce, rfl, hB1⟩, hc, hsz⟩
  · refine .inl ⟨_, rfl, hold_ops okT (rs := [.cell 2 29]) rfl ?_⟩
    have c1 : w1.cell? ⟨n, 0, none⟩ = some (.int .i64 0) := by rw [cellOf hc]; rfl
    have z1 := frozenOf (o := 0) hc
    simp (maxSteps := 1000000) (disch := first | omega | (simp only [sizeAlloc, sizeDrew, sizeSet, sizePut] <;> omega) | fail) only [GS, TT_eq, TTl, Nat.reduceAdd, Nat.reduceMul, Nat.reduceSub, Nat.reduceDiv, Nat.reduceMod, Nat.reducePow, Nat.reduceEqDiff, ↓reduceIte, reduceCtorEq, Int.reduceToNat, Int.reduceAdd, Int.reduceSub, Int.reduceMul, c1, z1]
    refine hold_leave (rs := [.cell 2 29]) okT rfl fok75 (.inr (.inl rfl)) (etryD_ret _ _ _ (.inl ⟨_, rfl, ?_⟩))
    show lastW TT [.cell 2 29] R _ .returning _
    have hs1 := heapSet (v := .int .i64 0) (o := 0) hc
    have hM := (Mod.refl [n] w1).set (p := ⟨n, 0, none⟩) (.inl (by simp)) (.int .i64 0)
    generalize w1.setCell ⟨n, 0, none⟩ (.int .i64 0) = w2 at hs1 hM ⊢
    have c2 : w2.cell? ⟨n, 0, none⟩ = some (.int .i64 0) := by rw [cellOf hs1]; rfl
    simp (maxSteps := 1000000) (disch := first | omega | (simp only [sizeAlloc, sizeDrew, sizeSet, sizePut] <;> omega) | fail) only [GS, TT_eq, TTl, Nat.reduceAdd, Nat.reduceMul, Nat.reduceSub, Nat.reduceDiv, Nat.reduceMod, Nat.reducePow, Nat.reduceEqDiff, ↓reduceIte, reduceCtorEq, Int.reduceToNat, Int.reduceAdd, Int.reduceSub, Int.reduceMul, lastW_ret]
    show ∃ v, w2.cell? ⟨n, 0, none⟩ = some v ∧ R (.returned v) w2
    exact ⟨_, c2, hA _ _ hA1 hM⟩
  · refine .inr ⟨_, rfl, hold_ex okT (rs := [.cell 2 29]) rfl ?_⟩
    simp (maxSteps := 1000000) (disch := first | omega | (simp only [sizeAlloc, sizeDrew, sizeSet, sizePut] <;> omega) | fail) only [GS, TT_eq, TTl, Nat.reduceAdd, Nat.reduceMul, Nat.reduceSub, Nat.reduceDiv, Nat.reduceMod, Nat.reducePow, Nat.reduceEqDiff, ↓reduceIte, reduceCtorEq, Int.reduceToNat, Int.reduceAdd, Int.reduceSub, Int.reduceMul]
    refine hold_leave (rs := [.cell 2 29]) okT rfl fok75 (.inr (.inr ⟨_, rfl⟩)) (etryD_pan ce n _ _ _ hc _ fun w2 hc2 hM => .inl ⟨_, rfl, ?_⟩)
    have c2 : w2.cell? ⟨n, 0, none⟩ = some (.int .i64 ce) := by rw [cellOf hc2]; rfl
    show lastW TT [.cell 2 29] R _ .returning w2
    simp (maxSteps := 1000000) (disch := first | omega | (simp only [sizeAlloc, sizeDrew, sizeSet, sizePut] <;> omega) | fail) only [GS, TT_eq, TTl, Nat.reduceAdd, Nat.reduceMul, Nat.reduceSub, Nat.reduceDiv, Nat.reduceMod, Nat.reducePow, Nat.reduceEqDiff, ↓reduceIte, reduceCtorEq, Int.reduceToNat, Int.reduceAdd, Int.reduceSub, Int.reduceMul, lastW_ret]
    show ∃ v, w2.cell? ⟨n, 0, none⟩ = some v ∧ R (.returned v) w2
    exact ⟨_, c2, hB _ _ _ hB1 hM⟩
end Go.Proofs.YtdflchgfhmjhbaaGreatDoor
