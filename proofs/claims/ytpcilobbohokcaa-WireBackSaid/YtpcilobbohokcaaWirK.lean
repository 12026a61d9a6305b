/-
  wire.Encode (walk).
-/
import Derived.Test.YtpcilobbohokcaaWirQ
set_option linter.unusedSimpArgs false
set_option linter.unusedVariables false
namespace Go.Proofs.Ytpcilobbohokcaa
open Go Go.Wk Go.RowKit
attribute [local irreducible] go Hold
open Go.Lib
theorem word_len (k : Nat) : (wordS k).length ≤ 8 := by unfold wordS; split <;> decide
theorem made_len (f : List UInt8) (l : List (List UInt8)) : (madeS f l).1.length ≤ 16384 := by
  unfold madeS
  split
  · split
    · rename_i h; exact (check0 h).2.2.1
    · simp
  · simp
theorem txn_len (x : Tx) : (txnS x).1.length ≤ 16384 := by
  unfold txnS
  split
  · exact made_len _ _
  · simp
theorem mbrs_len (c : Int) (l : List Mb) : (mbrsS c l).1.length ≤ 16384 := by
  unfold mbrsS
  split
  · split
    · exact made_len _ _
    · simp
  · simp
theorem yes_len (b : Bool) : (yesS b).length ≤ 1034 := by unfold yesS; cases b <;> exact numE_len (by decide) (by decide)
theorem rowsL_len (k : Nat) (m : Msg) : (rowsL k m).length ≤ 3 := by
  unfold rowsL
  split
  · simp [k2L]
  · unfold k5L; split <;> simp
  · simp
  · simp
theorem encL_len {k : Nat} {m : Msg} (h : checkB k m = true) : ∀ t ∈ encL k m, t.length ≤ 1000000 := by
  obtain ⟨hk, -, -, hf⟩ := check_is h
  intro t ht
  unfold encL at ht
  rw [List.mem_cons, List.mem_append] at ht
  rcases ht with rfl | ht | ht
  · have := dataS_len (wordS k); omega
  · split at ht
    · simp at ht
    · rw [List.mem_singleton.1 ht]; have := txn_len m.tx; omega
  · unfold formB at hf
    unfold rowsL at ht
    split at ht
    · simp only at hf
      unfold k1B at hf
      simp only [Bool.and_eq_true, decide_eq_true_eq] at hf
      have ho := of_decide_eq_true hf.1.1
      have hb := (check0 hf.2).2.2.1
      unfold k2L at ht
      simp only [List.mem_cons, List.not_mem_nil, or_false] at ht
      rcases ht with rfl | rfl | rfl
      · have := numE_len (v := m.aud) ho.1 (by omega); omega
      · have := mbrs_len m.tx.1 m.mbs; omega
      · omega
    · simp only at hf
      unfold k4B at hf
      unfold k5L at ht
      have hy := yes_len m.yes
      split at ht
      · rename_i hy1
        rw [hy1] at hf
        simp only [Bool.and_eq_true, Bool.not_true, Bool.false_or, beq_iff_eq] at hf
        have hb := (check0 hf.2).2.2.1
        simp only [List.mem_cons, List.not_mem_nil, or_false] at ht
        rcases ht with rfl | rfl <;> omega
      · rw [List.mem_singleton.1 ht]; omega
    · have hy := yes_len m.yes
      rw [List.mem_singleton.1 ht]; omega
    · simp at ht
set_option maxRecDepth 20000 in
set_option maxHeartbeats 16000000 in
theorem wEncode_cps (m : Msg) (k : Nat) (hk0 : m.k = k) (hk : k < 256) (sa : Value) (h1 : -9223372036854775808 ≤ m.aud) (h2 : m.aud ≤ 9223372036854775807) (hB : m.body.length ≤ maxLen) (hT : m.tag.length ≤ maxLen) (hl : m.mbs.length ≤ 1000000) (hd : ∀ x ∈ m.mbs, x.2.length ≤ maxLen) (w : World) (ha : Rd w 2 sa m.mbs.length (m.mbs.flatMap mbC)) (R : Ending → World → Prop) (hR : ∀ w', Mod [] w w' → R (.returned (stV (encS k m))) w') : Calls Try.prog 18 #[msgV m sa] w R := by
  obtain ⟨k', ⟨a, b, c⟩, aud, mbs, body, yes, tag⟩ := m
  simp only at hk0; subst hk0
  unfold encS at hR
  have hch := wCheck_cps ⟨k, (a, b, c), aud, mbs, body, yes, tag⟩ k rfl hk sa hB hT hl hd
  have htx := wTxn_cps (a, b, c)
  have hwr := wWrite_cps k ⟨k, (a, b, c), aud, mbs, body, yes, tag⟩ sa h1 h2 hl hd
  unfold msgV msgC at hch hwr ⊢
  unfold txV at htx
  simp only at hR hB hT hl hd ha hch htx hwr h1 h2 ⊢
  refine calls_go 4000 okT Try.func18 rfl (rs := [.tmp 2, .tmp 3]) rfl Try.ntmps18 (args := [.agg #[.int .u8 k, .int .i64 a, .int .i64 b, .int .i64 c, .int .i64 aud, sa, .string ⟨body.toArray⟩, .bool yes, .string ⟨tag.toArray⟩]]) ?_
  simp (config := { maxSteps := 1000000 }) (disch := first | omega | (simp only [sizeAlloc, sizeDrew, sizeSet, sizePut] <;> omega) | fail) only [GS1, GS2, GS3, GS4, GS5, GS6, GS7, GS8, GS9, GS10, GS11, TT_eq, TTl, Nat.reduceAdd, Nat.reduceMul, Nat.reduceSub, Nat.reduceDiv, Nat.reduceMod, Nat.reducePow, Nat.reduceEqDiff, ↓reduceIte, reduceCtorEq, true_and, and_true, and_self, false_and, and_false, Int.reduceToNat, Int.reduceAdd, Int.reduceSub, Int.reduceMul, cond_true, cond_false, List.toList_toArray, Option.map_some, Option.map_none, Option.some.injEq, List.cons_append, List.nil_append, List.length_cons, List.length_nil, List.getD_cons_zero, List.getD_cons_succ]
  have hM0 := (Mod.refl [] w).alloc (.cells #[.int .u8 k, .int .i64 a, .int .i64 b, .int .i64 c, .int .i64 aud, sa, .string ⟨body.toArray⟩, .bool yes, .string ⟨tag.toArray⟩] 42)
  have hh := heapNew (w := w) (o := (.cells #[.int .u8 k, .int .i64 a, .int .i64 b, .int .i64 c, .int .i64 aud, sa, .string ⟨body.toArray⟩, .bool yes, .string ⟨tag.toArray⟩] 42))
  generalize w.alloc (.cells #[.int .u8 k, .int .i64 a, .int .i64 b, .int .i64 c, .int .i64 aud, sa, .string ⟨body.toArray⟩, .bool yes, .string ⟨tag.toArray⟩] 42) = w1 at hM0 hh ⊢
  generalize hn : w.heap.size = n at *
  refine ⟨fok19, hch _ (ha.mod hM0 (by simp)) _ fun wc hMc => .inl ⟨_, rfl, hold_ops okT (rs := [.tmp 2, .tmp 3]) rfl ?_⟩⟩
  have hhc := hMc.get hh (by simp)
  have hM0c := hM0.trans hMc (by simp)
  cases hcB : checkB k ⟨k, (a, b, c), aud, mbs, body, yes, tag⟩
  · rw [hcB] at hR
    simp only [Bool.false_eq_true, if_false] at hR
    rw [show checkE k ⟨k, (a, b, c), aud, mbs, body, yes, tag⟩ = 2 from by unfold checkE; rw [hcB]; rfl]
    simp (config := { maxSteps := 1000000 }) (disch := first | omega | (simp only [sizeAlloc, sizeDrew, sizeSet, sizePut] <;> omega) | fail) only [GS1, GS2, GS3, GS4, GS5, GS6, GS7, GS8, GS9, GS10, GS11, TT_eq, TTl, Nat.reduceAdd, Nat.reduceMul, Nat.reduceSub, Nat.reduceDiv, Nat.reduceMod, Nat.reducePow, Nat.reduceEqDiff, ↓reduceIte, reduceCtorEq, true_and, and_true, and_self, false_and, and_false, Int.reduceToNat, Int.reduceAdd, Int.reduceSub, Int.reduceMul, cond_true, cond_false, List.toList_toArray, Option.map_some, Option.map_none, Option.some.injEq, List.cons_append, List.nil_append, List.length_cons, List.length_nil, List.getD_cons_zero, List.getD_cons_succ]
    exact hR _ hM0c
  rw [hcB] at hR
  simp only [if_true] at hR
  rw [show checkE k ⟨k, (a, b, c), aud, mbs, body, yes, tag⟩ = 0 from by unfold checkE; rw [hcB]; rfl]
  obtain ⟨hk6, -, -, -⟩ := check_is hcB
  obtain ⟨mn, mx, fa, fc, e, oa, oc⟩ := kdAt_wr k hk6
  clear hh hM0 hMc hch
  simp (config := { maxSteps := 1000000 }) (disch := first | omega | (simp only [sizeAlloc, sizeDrew, sizeSet, sizePut] <;> omega) | fail) only [GS1, GS2, GS3, GS4, GS5, GS6, GS7, GS8, GS9, GS10, GS11, TT_eq, TTl, Nat.reduceAdd, Nat.reduceMul, Nat.reduceSub, Nat.reduceDiv, Nat.reduceMod, Nat.reducePow, Nat.reduceEqDiff, ↓reduceIte, reduceCtorEq, true_and, and_true, and_self, false_and, and_false, Int.reduceToNat, Int.reduceAdd, Int.reduceSub, Int.reduceMul, cond_true, cond_false, List.toList_toArray, Option.map_some, Option.map_none, Option.some.injEq, List.cons_append, List.nil_append, List.length_cons, List.length_nil, List.getD_cons_zero, List.getD_cons_succ]
  refine hold_tree okT [0, 0, 2, 7, 0, 31] (.qop 1 (.qop 2 (.eff 0 (.lin [3, 4, 5]) (.eff 4 (.lin [0, 3, 5]) .stop)))) (by kernel_rfl) ?_
  have hh1 : (wc.drewN 1).heap[n]? = _ := hhc
  have hM1 := hM0c.drewN 1
  generalize wc.drewN 1 = w2 at *
  have c2 := fun o => cellOf (o := o) hh1
  refine ht_val okT rfl rfl (v := .pointer (some ⟨n, 0, none⟩)) (by simp (config := { maxSteps := 1000000 }) (disch := first | omega | (simp only [sizeAlloc, sizeDrew, sizeSet, sizePut] <;> omega) | fail) only [GS1, GS2, GS3, GS4, GS5, GS6, GS7, GS8, GS9, GS10, GS11, TT_eq, TTl, Nat.reduceAdd, Nat.reduceMul, Nat.reduceSub, Nat.reduceDiv, Nat.reduceMod, Nat.reducePow, Nat.reduceEqDiff, ↓reduceIte, reduceCtorEq, true_and, and_true, and_self, false_and, and_false, Int.reduceToNat, Int.reduceAdd, Int.reduceSub, Int.reduceMul, cond_true, cond_false, List.toList_toArray, Option.map_some, Option.map_none, Option.some.injEq, List.cons_append, List.nil_append, List.length_cons, List.length_nil, List.getD_cons_zero, List.getD_cons_succ]) ?_
  refine ht_val okT rfl rfl (v := .int .u8 k) (by simp (config := { maxSteps := 1000000 }) (disch := first | omega | (simp only [sizeAlloc, sizeDrew, sizeSet, sizePut] <;> omega) | fail) only [GS1, GS2, GS3, GS4, GS5, GS6, GS7, GS8, GS9, GS10, GS11, TT_eq, TTl, Nat.reduceAdd, Nat.reduceMul, Nat.reduceSub, Nat.reduceDiv, Nat.reduceMod, Nat.reducePow, Nat.reduceEqDiff, ↓reduceIte, reduceCtorEq, true_and, and_true, and_self, false_and, and_false, Int.reduceToNat, Int.reduceAdd, Int.reduceSub, Int.reduceMul, cond_true, cond_false, List.toList_toArray, Option.map_some, Option.map_none, Option.some.injEq, List.cons_append, List.nil_append, List.length_cons, List.length_nil, List.getD_cons_zero, List.getD_cons_succ, c2]) ?_
  refine ht_call okT rfl rfl ?_ ?_
  · simp (config := { maxSteps := 1000000 }) (disch := first | omega | (simp only [sizeAlloc, sizeDrew, sizeSet, sizePut] <;> omega) | fail) only [GS1, GS2, GS3, GS4, GS5, GS6, GS7, GS8, GS9, GS10, GS11, TT_eq, TTl, Nat.reduceAdd, Nat.reduceMul, Nat.reduceSub, Nat.reduceDiv, Nat.reduceMod, Nat.reducePow, Nat.reduceEqDiff, ↓reduceIte, reduceCtorEq, true_and, and_true, and_self, false_and, and_false, Int.reduceToNat, Int.reduceAdd, Int.reduceSub, Int.reduceMul, cond_true, cond_false, List.toList_toArray, Option.map_some, Option.map_none, Option.some.injEq, List.cons_append, List.nil_append, List.length_cons, List.length_nil, List.getD_cons_zero, List.getD_cons_succ]
    refine ⟨fok57, wKinds_cps _ _ fun m w3 hm hmn hM => .inl ⟨_, rfl, cellM (c2 0) hM, ?_⟩⟩
    have hh3 := hM.get hh1 (by simp)
    have hM3 := hM1.trans hM (by simp)
    have c3 := fun o => cellOf (o := o) hh3
    refine ht_lin rfl (hold_dops okT (rs := [.tmp 2, .tmp 3]) rfl ?_)
    have hl0 := look_w false hm.at hk
    rw [e] at hl0
    simp only [Bool.false_eq_true, if_false] at hl0
    have hlt := hm.lt
    simp (config := { maxSteps := 1000000 }) (disch := first | omega | (simp only [sizeAlloc, sizeDrew, sizeSet, sizePut] <;> omega) | fail) only [GS1, GS2, GS3, GS4, GS5, GS6, GS7, GS8, GS9, GS10, GS11, TT_eq, TTl, Nat.reduceAdd, Nat.reduceMul, Nat.reduceSub, Nat.reduceDiv, Nat.reduceMod, Nat.reducePow, Nat.reduceEqDiff, ↓reduceIte, reduceCtorEq, true_and, and_true, and_self, false_and, and_false, Int.reduceToNat, Int.reduceAdd, Int.reduceSub, Int.reduceMul, cond_true, cond_false, List.toList_toArray, Option.map_some, Option.map_none, Option.some.injEq, List.cons_append, List.nil_append, List.length_cons, List.length_nil, List.getD_cons_zero, List.getD_cons_succ, hl0, c3, oa, oc]
    have hMa := (Mod.refl [] w3).alloc (.cells #[.string ⟨#[]⟩, .int .i64 0, .int .i64 0, .nilFunc, .nilFunc, .nilFunc] 102)
    refine ⟨⟨by rw [lookAlloc hlt]; exact hl0, cellM (c3 0) hMa⟩, ?_⟩
    have hnb : n < w3.heap.size := (Array.getElem?_eq_some_iff.1 hh3).1
    have hwb := hM3.size
    have hbW := st6 (heapNew (w := w3) (o := (.cells #[.string ⟨#[]⟩, .int .i64 0, .int .i64 0, .nilFunc, .nilFunc, .nilFunc] 102))) (x := .string ⟨(wordS k).toArray⟩) (y := .int .i64 mn) (z := .int .i64 mx) (u := fa) (v := (.func (.func (wrAt k)) #[] #[])) (q := fc)
    have hhW : (((((((w3.alloc (.cells #[.string ⟨#[]⟩, .int .i64 0, .int .i64 0, .nilFunc, .nilFunc, .nilFunc] 102)).setCell ⟨w3.heap.size, 0, none⟩ (.string ⟨(wordS k).toArray⟩)).setCell ⟨w3.heap.size, 1, none⟩ (.int .i64 mn)).setCell ⟨w3.heap.size, 2, none⟩ (.int .i64 mx)).setCell ⟨w3.heap.size, 3, none⟩ fa).setCell ⟨w3.heap.size, 4, none⟩ (.func (.func (wrAt k)) #[] #[])).setCell ⟨w3.heap.size, 5, none⟩ fc).heap[n]? = _ := (heapSetNe (heapSetNe (heapSetNe (heapSetNe (heapSetNe (heapSetNe (hMa.get hh3 (by simp)) (by omega)) (by omega)) (by omega)) (by omega)) (by omega)) (by omega))
    have hMW : Mod [] w _ := (((((((hM3.alloc (.cells #[.string ⟨#[]⟩, .int .i64 0, .int .i64 0, .nilFunc, .nilFunc, .nilFunc] 102)).set (p := ⟨w3.heap.size, 0, none⟩) (.inr hwb) (.string ⟨(wordS k).toArray⟩)).set (p := ⟨w3.heap.size, 1, none⟩) (.inr hwb) (.int .i64 mn)).set (p := ⟨w3.heap.size, 2, none⟩) (.inr hwb) (.int .i64 mx)).set (p := ⟨w3.heap.size, 3, none⟩) (.inr hwb) fa).set (p := ⟨w3.heap.size, 4, none⟩) (.inr hwb) (.func (.func (wrAt k)) #[] #[])).set (p := ⟨w3.heap.size, 5, none⟩) (.inr hwb) fc)
    revert hbW hhW hMW
    generalize (((((((w3.alloc (.cells #[.string ⟨#[]⟩, .int .i64 0, .int .i64 0, .nilFunc, .nilFunc, .nilFunc] 102)).setCell ⟨w3.heap.size, 0, none⟩ (.string ⟨(wordS k).toArray⟩)).setCell ⟨w3.heap.size, 1, none⟩ (.int .i64 mn)).setCell ⟨w3.heap.size, 2, none⟩ (.int .i64 mx)).setCell ⟨w3.heap.size, 3, none⟩ fa).setCell ⟨w3.heap.size, 4, none⟩ (.func (.func (wrAt k)) #[] #[])).setCell ⟨w3.heap.size, 5, none⟩ fc) = w6
    intro hbW hhW hMW
    generalize w3.heap.size = b4 at hnb hwb hbW ⊢
    refine ⟨fok41, tData_cps (wordS k) (by have := word_len k; unfold maxLen; omega) _ _ fun w7 hM7 => .inl ⟨_, rfl, hold_ops okT (rs := [.tmp 2, .tmp 3]) rfl ?_⟩⟩
    have hh7 := hM7.get hhW (by simp)
    have hb7 := hM7.get hbW (by simp)
    have hMx := hMW.trans hM7 (by simp)
    unfold stV
    simp (config := { maxSteps := 1000000 }) (disch := first | omega | (simp only [sizeAlloc, sizeDrew, sizeSet, sizePut] <;> omega) | fail) only [GS1, GS2, GS3, GS4, GS5, GS6, GS7, GS8, GS9, GS10, GS11, TT_eq, TTl, Nat.reduceAdd, Nat.reduceMul, Nat.reduceSub, Nat.reduceDiv, Nat.reduceMod, Nat.reducePow, Nat.reduceEqDiff, ↓reduceIte, reduceCtorEq, true_and, and_true, and_self, false_and, and_false, Int.reduceToNat, Int.reduceAdd, Int.reduceSub, Int.reduceMul, cond_true, cond_false, List.toList_toArray, Option.map_some, Option.map_none, Option.some.injEq, List.cons_append, List.nil_append, List.length_cons, List.length_nil, List.getD_cons_zero, List.getD_cons_succ]
    have hown7 := rowNew (w := w7) (e := 9) (base := w7.heap.size) [strV (dataS (wordS k)).1] (by unfold maxLen; simp) (Nat.le_refl _)
    have hM8 := (Mod.refl [] w7).alloc (.cells #[strV (dataS (wordS k)).1] 9)
    have hh8 := hM8.get hh7 (by simp)
    have hb8 := hM8.get hb7 (by simp)
    have hs8 := hM8.size
    have hs7 := hMx.size
    have hn7 := (Array.getElem?_eq_some_iff.1 hh7).1
    have hb47 := (Array.getElem?_eq_some_iff.1 hb7).1
    change (w7.alloc (.cells #[strV (dataS (wordS k)).1] 9)).ownsRow _ _ _ _ _ _ at hown7
    rw [show (.string ⟨(dataS (wordS k)).1.toArray⟩ : Value) = strV (dataS (wordS k)).1 from rfl]
    generalize w7.alloc (.cells #[strV (dataS (wordS k)).1] 9) = w8 at *
    replace hMx := hMx.trans hM8 (by simp)
    generalize w7.heap.size = BS at *
    have c8 := fun o => cellOf (o := o) hh8
    by_cases h6 : (k : Int) = 6
    · have h6n : k = 6 := by omega
      have hown : w8.ownsRow BS 9 1 (.slice (some ⟨BS, 0, none⟩) 1 1) 1 ([(dataS (wordS k)).1].map strV) := hown7
      have hhX := hh8
      have hbX := hb8
      have hMX := hMx
      clear hown7 hh8 hb8 hMx
      have hva : ∃ va vc, (some ⟨BS, 0, none⟩ : Option Addr) = va ∧ (1 : Nat) = vc := ⟨_, _, rfl, rfl⟩
      obtain ⟨va, vc, e1, e2⟩ := hva
      rw [e1] at hown ⊢
      simp (config := { maxSteps := 1000000 }) (disch := first | omega | (simp only [sizeAlloc, sizeDrew, sizeSet, sizePut] <;> omega) | fail) only [GS1, GS2, GS3, GS4, GS5, GS6, GS7, GS8, GS9, GS10, GS11, TT_eq, TTl, Nat.reduceAdd, Nat.reduceMul, Nat.reduceSub, Nat.reduceDiv, Nat.reduceMod, Nat.reducePow, Nat.reduceEqDiff, ↓reduceIte, reduceCtorEq, true_and, and_true, and_self, false_and, and_false, Int.reduceToNat, Int.reduceAdd, Int.reduceSub, Int.reduceMul, cond_true, cond_false, List.toList_toArray, Option.map_some, Option.map_none, Option.some.injEq, List.cons_append, List.nil_append, List.length_cons, List.length_nil, List.getD_cons_zero, List.getD_cons_succ, c8, h6]
      have cX := fun o => cellOf (o := o) hhX
      have dX := fun o => cellOf (o := o) hbX
      have hsX := hMX.size
      simp (config := { maxSteps := 1000000 }) (disch := first | omega | (simp only [sizeAlloc, sizeDrew, sizeSet, sizePut] <;> omega) | fail) only [GS1, GS2, GS3, GS4, GS5, GS6, GS7, GS8, GS9, GS10, GS11, TT_eq, TTl, Nat.reduceAdd, Nat.reduceMul, Nat.reduceSub, Nat.reduceDiv, Nat.reduceMod, Nat.reducePow, Nat.reduceEqDiff, ↓reduceIte, reduceCtorEq, true_and, and_true, and_self, false_and, and_false, Int.reduceToNat, Int.reduceAdd, Int.reduceSub, Int.reduceMul, cond_true, cond_false, List.toList_toArray, Option.map_some, Option.map_none, Option.some.injEq, List.cons_append, List.nil_append, List.length_cons, List.length_nil, List.getD_cons_zero, List.getD_cons_succ, cX, dX]
      refine ⟨wr_ok k, hwr _ (ha.mod hMX (by simp)) _ fun rv wY hrv hMY => .inl ⟨_, rfl, hold_ops okT (rs := [.tmp 2, .tmp 3]) rfl ?_⟩⟩
      have hownY := ownsRow_mod hown hMY (by simp)
      have hMXY := hMX.trans hMY (by simp)
      have hrl := rowsL_len k ⟨k, (a, b, c), aud, mbs, body, yes, tag⟩
      have hsY := hMY.size
      obtain ⟨ra, rc, rfl⟩ := (Rd.own hrv).slice
      simp (config := { maxSteps := 1000000 }) (disch := first | omega | (simp only [sizeAlloc, sizeDrew, sizeSet, sizePut] <;> omega) | fail) only [GS1, GS2, GS3, GS4, GS5, GS6, GS7, GS8, GS9, GS10, GS11, TT_eq, TTl, Nat.reduceAdd, Nat.reduceMul, Nat.reduceSub, Nat.reduceDiv, Nat.reduceMod, Nat.reducePow, Nat.reduceEqDiff, ↓reduceIte, reduceCtorEq, true_and, and_true, and_self, false_and, and_false, Int.reduceToNat, Int.reduceAdd, Int.reduceSub, Int.reduceMul, cond_true, cond_false, List.toList_toArray, Option.map_some, Option.map_none, Option.some.injEq, List.cons_append, List.nil_append, List.length_cons, List.length_nil, List.getD_cons_zero, List.getD_cons_succ]
      refine hold_appendR okT rfl rfl rfl rfl (by decide) BS hownY rfl rfl (Rd.own hrv) (by intro u hu; obtain ⟨z, _, rfl⟩ := List.mem_map.1 hu; rfl) (by first | (simp only; omega) | (simp only [List.length_cons, List.length_nil]; omega) | (simp <;> omega)) (by unfold maxLen; first | (simp only; omega) | (simp only [List.length_cons, List.length_nil]; omega) | (simp <;> omega)) (by omega) fun v' wZ hownZ hMZ => hold_ops okT (rs := [.tmp 2, .tmp 3]) rfl ?_
      have hob : ∀ y ∈ (Value.slice va 1 1).ownBlock.toList, w.heap.size ≤ y := fun y hy => by have := (hownY.lt y (by simpa using hy)).1; omega
      have hMW := hMXY.trans hMZ (fun y hy => .inr (hob y hy))
      have hL : encL k ⟨k, (a, b, c), aud, mbs, body, yes, tag⟩ = [(dataS (wordS k)).1] ++ rowsL k ⟨k, (a, b, c), aud, mbs, body, yes, tag⟩ := by unfold encL; rw [if_pos h6n]; rfl
      have hcol : (([(dataS (wordS k)).1] : List (List UInt8)).map strV ++ (rowsL k ⟨k, (a, b, c), aud, mbs, body, yes, tag⟩).map strV) = (encL k ⟨k, (a, b, c), aud, mbs, body, yes, tag⟩).map strV := by rw [hL, List.map_append]
      have hcl : ([(dataS (wordS k)).1] : List (List UInt8)).length + (rowsL k ⟨k, (a, b, c), aud, mbs, body, yes, tag⟩).length = (encL k ⟨k, (a, b, c), aud, mbs, body, yes, tag⟩).length := by rw [hL, List.length_append]
      rw [hcol] at hownZ
      replace hownZ : wZ.ownsRow BS 9 1 v' (encL k ⟨k, (a, b, c), aud, mbs, body, yes, tag⟩).length ((encL k ⟨k, (a, b, c), aud, mbs, body, yes, tag⟩).map strV) := by rw [← hcl]; exact hownZ
      have hlen := encL_len hcB
      have hll : (encL k ⟨k, (a, b, c), aud, mbs, body, yes, tag⟩).length ≤ 5 := by rw [← hcl]; simp only [List.length_cons, List.length_nil]; omega
      clear hcol hcl hL hownY hrv hob
      obtain ⟨za, zc, rfl⟩ := (Rd.own hownZ).slice
      have hrZ := Rd.own hownZ
      generalize encL k ⟨k, (a, b, c), aud, mbs, body, yes, tag⟩ = L at *
      simp (config := { maxSteps := 1000000 }) (disch := first | omega | (simp only [sizeAlloc, sizeDrew, sizeSet, sizePut] <;> omega) | fail) only [GS1, GS2, GS3, GS4, GS5, GS6, GS7, GS8, GS9, GS10, GS11, TT_eq, TTl, Nat.reduceAdd, Nat.reduceMul, Nat.reduceSub, Nat.reduceDiv, Nat.reduceMod, Nat.reducePow, Nat.reduceEqDiff, ↓reduceIte, reduceCtorEq, true_and, and_true, and_self, false_and, and_false, Int.reduceToNat, Int.reduceAdd, Int.reduceSub, Int.reduceMul, cond_true, cond_false, List.toList_toArray, Option.map_some, Option.map_none, Option.some.injEq, List.cons_append, List.nil_append, List.length_cons, List.length_nil, List.getD_cons_zero, List.getD_cons_succ]
      refine hold_loop okT (rs := [.tmp 2, .tmp 3]) rfl [51] [2, 3, 12, 52, 53, 54, 55, 56, 57] (fun vs w' => ∃ j : Nat, j ≤ L.length ∧ vs = [.int .i64 j] ∧ w' = wZ ∧ ∀ t ∈ L.take j, t ≠ []) (fun vs _ => match vs with | [.int _ i] => L.length - i.toNat | _ => 0) (by kernel_rfl) ⟨0, by omega, rfl, rfl, by simp⟩ ?_
      rintro vs w' J ⟨j, hj, rfl, rfl, hne⟩
      by_cases hlt : j < L.length
      · obtain ⟨b1, o1, c1, e1, _, g1⟩ := hrZ.at (by omega) (by omega)
        have f1 := g1 j _ (getS hlt)
        rw [Value.slice.injEq] at e1
        obtain ⟨rfl, -, -⟩ := e1
        have htk := List.take_succ_eq_append_getElem hlt
        have hmem := List.getElem_mem hlt
        generalize L[j] = t at f1 htk hmem
        cases t with
        | nil =>
          rw [if_pos (List.any_eq_true.2 ⟨[], hmem, rfl⟩)] at hR
          simp (config := { maxSteps := 1000000 }) (disch := first | omega | (simp only [sizeAlloc, sizeDrew, sizeSet, sizePut] <;> omega) | fail) only [GS1, GS2, GS3, GS4, GS5, GS6, GS7, GS8, GS9, GS10, GS11, TT_eq, TTl, Nat.reduceAdd, Nat.reduceMul, Nat.reduceSub, Nat.reduceDiv, Nat.reduceMod, Nat.reducePow, Nat.reduceEqDiff, ↓reduceIte, reduceCtorEq, true_and, and_true, and_self, false_and, and_false, Int.reduceToNat, Int.reduceAdd, Int.reduceSub, Int.reduceMul, cond_true, cond_false, List.toList_toArray, Option.map_some, Option.map_none, Option.some.injEq, List.cons_append, List.nil_append, List.length_cons, List.length_nil, List.getD_cons_zero, List.getD_cons_succ, f1]
          exact hR _ hMW
        | cons t0 t1 =>
          simp (config := { maxSteps := 1000000 }) (disch := first | omega | (simp only [sizeAlloc, sizeDrew, sizeSet, sizePut] <;> omega) | fail) only [GS1, GS2, GS3, GS4, GS5, GS6, GS7, GS8, GS9, GS10, GS11, TT_eq, TTl, Nat.reduceAdd, Nat.reduceMul, Nat.reduceSub, Nat.reduceDiv, Nat.reduceMod, Nat.reducePow, Nat.reduceEqDiff, ↓reduceIte, reduceCtorEq, true_and, and_true, and_self, false_and, and_false, Int.reduceToNat, Int.reduceAdd, Int.reduceSub, Int.reduceMul, cond_true, cond_false, List.toList_toArray, Option.map_some, Option.map_none, Option.some.injEq, List.cons_append, List.nil_append, List.length_cons, List.length_nil, List.getD_cons_zero, List.getD_cons_succ, f1]
          refine ⟨⟨j + 1, by omega, rfl, ?_⟩, by omega⟩
          rw [htk]
          intro s hs
          rcases List.mem_append.1 hs with hs | hs
          · exact hne s hs
          · rw [List.mem_singleton.1 hs]; simp
      · have e : j = L.length := by omega
        subst e
        rw [List.take_length] at hne
        rw [if_neg (by intro ha; obtain ⟨t, ht, h0⟩ := List.any_eq_true.1 ha; exact hne t ht (List.isEmpty_iff.1 h0))] at hR
        simp (config := { maxSteps := 1000000 }) (disch := first | omega | (simp only [sizeAlloc, sizeDrew, sizeSet, sizePut] <;> omega) | fail) only [GS1, GS2, GS3, GS4, GS5, GS6, GS7, GS8, GS9, GS10, GS11, TT_eq, TTl, Nat.reduceAdd, Nat.reduceMul, Nat.reduceSub, Nat.reduceDiv, Nat.reduceMod, Nat.reducePow, Nat.reduceEqDiff, ↓reduceIte, reduceCtorEq, true_and, and_true, and_self, false_and, and_false, Int.reduceToNat, Int.reduceAdd, Int.reduceSub, Int.reduceMul, cond_true, cond_false, List.toList_toArray, Option.map_some, Option.map_none, Option.some.injEq, List.cons_append, List.nil_append, List.length_cons, List.length_nil, List.getD_cons_zero, List.getD_cons_succ]
        refine ⟨fok40, tRow_cps _ L _ _ (by omega) hlen hrZ fun wV hMV => .inl ⟨_, rfl, hold_ops okT (rs := [.tmp 2, .tmp 3]) rfl ?_⟩⟩
        unfold stV
        simp (config := { maxSteps := 1000000 }) (disch := first | omega | (simp only [sizeAlloc, sizeDrew, sizeSet, sizePut] <;> omega) | fail) only [GS1, GS2, GS3, GS4, GS5, GS6, GS7, GS8, GS9, GS10, GS11, TT_eq, TTl, Nat.reduceAdd, Nat.reduceMul, Nat.reduceSub, Nat.reduceDiv, Nat.reduceMod, Nat.reducePow, Nat.reduceEqDiff, ↓reduceIte, reduceCtorEq, true_and, and_true, and_self, false_and, and_false, Int.reduceToNat, Int.reduceAdd, Int.reduceSub, Int.reduceMul, cond_true, cond_false, List.toList_toArray, Option.map_some, Option.map_none, Option.some.injEq, List.cons_append, List.nil_append, List.length_cons, List.length_nil, List.getD_cons_zero, List.getD_cons_succ]
        exact hR _ (hMW.trans hMV (by simp))
    · have h6n : ¬ k = 6 := by omega
      simp (config := { maxSteps := 1000000 }) (disch := first | omega | (simp only [sizeAlloc, sizeDrew, sizeSet, sizePut] <;> omega) | fail) only [GS1, GS2, GS3, GS4, GS5, GS6, GS7, GS8, GS9, GS10, GS11, TT_eq, TTl, Nat.reduceAdd, Nat.reduceMul, Nat.reduceSub, Nat.reduceDiv, Nat.reduceMod, Nat.reducePow, Nat.reduceEqDiff, ↓reduceIte, reduceCtorEq, true_and, and_true, and_self, false_and, and_false, Int.reduceToNat, Int.reduceAdd, Int.reduceSub, Int.reduceMul, cond_true, cond_false, List.toList_toArray, Option.map_some, Option.map_none, Option.some.injEq, List.cons_append, List.nil_append, List.length_cons, List.length_nil, List.getD_cons_zero, List.getD_cons_succ, c8, h6]
      refine ⟨fok42, htx _ _ fun w9 hM9 => .inl ⟨_, rfl, hold_ops okT (rs := [.tmp 2, .tmp 3]) rfl ?_⟩⟩
      have hh9 := hM9.get hh8 (by simp)
      have hb9 := hM9.get hb8 (by simp)
      have hM09 := hMx.trans hM9 (by simp)
      have hown9 := ownsRow_mod hown7 hM9 (by simp)
      have hs9 := hM09.size
      have hs9' := hM9.size
      unfold stV
      simp (config := { maxSteps := 1000000 }) (disch := first | omega | (simp only [sizeAlloc, sizeDrew, sizeSet, sizePut] <;> omega) | fail) only [GS1, GS2, GS3, GS4, GS5, GS6, GS7, GS8, GS9, GS10, GS11, TT_eq, TTl, Nat.reduceAdd, Nat.reduceMul, Nat.reduceSub, Nat.reduceDiv, Nat.reduceMod, Nat.reducePow, Nat.reduceEqDiff, ↓reduceIte, reduceCtorEq, true_and, and_true, and_self, false_and, and_false, Int.reduceToNat, Int.reduceAdd, Int.reduceSub, Int.reduceMul, cond_true, cond_false, List.toList_toArray, Option.map_some, Option.map_none, Option.some.injEq, List.cons_append, List.nil_append, List.length_cons, List.length_nil, List.getD_cons_zero, List.getD_cons_succ]
      refine hold_append1 okT rfl rfl rfl rfl rfl BS hown9 rfl rfl (u := strV (txnS (a, b, c)).1) rfl (by first | (simp only; omega) | (simp only [List.length_cons, List.length_nil]; omega) | (simp <;> omega)) (by unfold maxLen; simp) (by omega) fun v8 wX hown hMx9 _ => hold_ops okT (rs := [.tmp 2, .tmp 3]) rfl ?_
      have hob9 : ∀ y ∈ (Value.slice (some ⟨BS, 0, none⟩) 1 1).ownBlock.toList, BS ≤ y := fun y hy => (hown9.lt y (by simpa using hy)).1
      have hMX := hM09.trans hMx9 (fun y hy => .inr (by have := hob9 y hy; omega))
      have hhX := hMx9.get hh9 (fun hy => by have := hob9 n hy; omega)
      have hbX := hMx9.get hb9 (fun hy => by have := hob9 b4 hy; omega)
      replace hown : wX.ownsRow BS 9 1 v8 2 ([(dataS (wordS k)).1, (txnS (a, b, c)).1].map strV) := hown
      have hsX9 := hMx9.size
      clear hob9 hMx9 hh9 hb9 hM09 hown9 hown7 hh8 hb8 hMx
      obtain ⟨va, vc, rfl⟩ := (Rd.own hown).slice
      have cX := fun o => cellOf (o := o) hhX
      have dX := fun o => cellOf (o := o) hbX
      have hsX := hMX.size
      simp (config := { maxSteps := 1000000 }) (disch := first | omega | (simp only [sizeAlloc, sizeDrew, sizeSet, sizePut] <;> omega) | fail) only [GS1, GS2, GS3, GS4, GS5, GS6, GS7, GS8, GS9, GS10, GS11, TT_eq, TTl, Nat.reduceAdd, Nat.reduceMul, Nat.reduceSub, Nat.reduceDiv, Nat.reduceMod, Nat.reducePow, Nat.reduceEqDiff, ↓reduceIte, reduceCtorEq, true_and, and_true, and_self, false_and, and_false, Int.reduceToNat, Int.reduceAdd, Int.reduceSub, Int.reduceMul, cond_true, cond_false, List.toList_toArray, Option.map_some, Option.map_none, Option.some.injEq, List.cons_append, List.nil_append, List.length_cons, List.length_nil, List.getD_cons_zero, List.getD_cons_succ, cX, dX]
      refine ⟨wr_ok k, hwr _ (ha.mod hMX (by simp)) _ fun rv wY hrv hMY => .inl ⟨_, rfl, hold_ops okT (rs := [.tmp 2, .tmp 3]) rfl ?_⟩⟩
      have hownY := ownsRow_mod hown hMY (by simp)
      have hMXY := hMX.trans hMY (by simp)
      have hrl := rowsL_len k ⟨k, (a, b, c), aud, mbs, body, yes, tag⟩
      have hsY := hMY.size
      obtain ⟨ra, rc, rfl⟩ := (Rd.own hrv).slice
      simp (config := { maxSteps := 1000000 }) (disch := first | omega | (simp only [sizeAlloc, sizeDrew, sizeSet, sizePut] <;> omega) | fail) only [GS1, GS2, GS3, GS4, GS5, GS6, GS7, GS8, GS9, GS10, GS11, TT_eq, TTl, Nat.reduceAdd, Nat.reduceMul, Nat.reduceSub, Nat.reduceDiv, Nat.reduceMod, Nat.reducePow, Nat.reduceEqDiff, ↓reduceIte, reduceCtorEq, true_and, and_true, and_self, false_and, and_false, Int.reduceToNat, Int.reduceAdd, Int.reduceSub, Int.reduceMul, cond_true, cond_false, List.toList_toArray, Option.map_some, Option.map_none, Option.some.injEq, List.cons_append, List.nil_append, List.length_cons, List.length_nil, List.getD_cons_zero, List.getD_cons_succ]
      refine hold_appendR okT rfl rfl rfl rfl (by decide) BS hownY rfl rfl (Rd.own hrv) (by intro u hu; obtain ⟨z, _, rfl⟩ := List.mem_map.1 hu; rfl) (by first | (simp only; omega) | (simp only [List.length_cons, List.length_nil]; omega) | (simp <;> omega)) (by unfold maxLen; first | (simp only; omega) | (simp only [List.length_cons, List.length_nil]; omega) | (simp <;> omega)) (by omega) fun v' wZ hownZ hMZ => hold_ops okT (rs := [.tmp 2, .tmp 3]) rfl ?_
      have hob : ∀ y ∈ (Value.slice va 2 vc).ownBlock.toList, w.heap.size ≤ y := fun y hy => by have := (hownY.lt y (by simpa using hy)).1; omega
      have hMW := hMXY.trans hMZ (fun y hy => .inr (hob y hy))
      have hL : encL k ⟨k, (a, b, c), aud, mbs, body, yes, tag⟩ = [(dataS (wordS k)).1, (txnS (a, b, c)).1] ++ rowsL k ⟨k, (a, b, c), aud, mbs, body, yes, tag⟩ := by unfold encL; rw [if_neg h6n]; rfl
      have hcol : (([(dataS (wordS k)).1, (txnS (a, b, c)).1] : List (List UInt8)).map strV ++ (rowsL k ⟨k, (a, b, c), aud, mbs, body, yes, tag⟩).map strV) = (encL k ⟨k, (a, b, c), aud, mbs, body, yes, tag⟩).map strV := by rw [hL, List.map_append]
      have hcl : ([(dataS (wordS k)).1, (txnS (a, b, c)).1] : List (List UInt8)).length + (rowsL k ⟨k, (a, b, c), aud, mbs, body, yes, tag⟩).length = (encL k ⟨k, (a, b, c), aud, mbs, body, yes, tag⟩).length := by rw [hL, List.length_append]
      rw [hcol] at hownZ
      replace hownZ : wZ.ownsRow BS 9 1 v' (encL k ⟨k, (a, b, c), aud, mbs, body, yes, tag⟩).length ((encL k ⟨k, (a, b, c), aud, mbs, body, yes, tag⟩).map strV) := by rw [← hcl]; exact hownZ
      have hlen := encL_len hcB
      have hll : (encL k ⟨k, (a, b, c), aud, mbs, body, yes, tag⟩).length ≤ 5 := by rw [← hcl]; simp only [List.length_cons, List.length_nil]; omega
      clear hcol hcl hL hownY hrv hob
      obtain ⟨za, zc, rfl⟩ := (Rd.own hownZ).slice
      have hrZ := Rd.own hownZ
      generalize encL k ⟨k, (a, b, c), aud, mbs, body, yes, tag⟩ = L at *
      simp (config := { maxSteps := 1000000 }) (disch := first | omega | (simp only [sizeAlloc, sizeDrew, sizeSet, sizePut] <;> omega) | fail) only [GS1, GS2, GS3, GS4, GS5, GS6, GS7, GS8, GS9, GS10, GS11, TT_eq, TTl, Nat.reduceAdd, Nat.reduceMul, Nat.reduceSub, Nat.reduceDiv, Nat.reduceMod, Nat.reducePow, Nat.reduceEqDiff, ↓reduceIte, reduceCtorEq, true_and, and_true, and_self, false_and, and_false, Int.reduceToNat, Int.reduceAdd, Int.reduceSub, Int.reduceMul, cond_true, cond_false, List.toList_toArray, Option.map_some, Option.map_none, Option.some.injEq, List.cons_append, List.nil_append, List.length_cons, List.length_nil, List.getD_cons_zero, List.getD_cons_succ]
      refine hold_loop okT (rs := [.tmp 2, .tmp 3]) rfl [51] [2, 3, 12, 52, 53, 54, 55, 56, 57] (fun vs w' => ∃ j : Nat, j ≤ L.length ∧ vs = [.int .i64 j] ∧ w' = wZ ∧ ∀ t ∈ L.take j, t ≠ []) (fun vs _ => match vs with | [.int _ i] => L.length - i.toNat | _ => 0) (by kernel_rfl) ⟨0, by omega, rfl, rfl, by simp⟩ ?_
      rintro vs w' J ⟨j, hj, rfl, rfl, hne⟩
      by_cases hlt : j < L.length
      · obtain ⟨b1, o1, c1, e1, _, g1⟩ := hrZ.at (by omega) (by omega)
        have f1 := g1 j _ (getS hlt)
        rw [Value.slice.injEq] at e1
        obtain ⟨rfl, -, -⟩ := e1
        have htk := List.take_succ_eq_append_getElem hlt
        have hmem := List.getElem_mem hlt
        generalize L[j] = t at f1 htk hmem
        cases t with
        | nil =>
          rw [if_pos (List.any_eq_true.2 ⟨[], hmem, rfl⟩)] at hR
          simp (config := { maxSteps := 1000000 }) (disch := first | omega | (simp only [sizeAlloc, sizeDrew, sizeSet, sizePut] <;> omega) | fail) only [GS1, GS2, GS3, GS4, GS5, GS6, GS7, GS8, GS9, GS10, GS11, TT_eq, TTl, Nat.reduceAdd, Nat.reduceMul, Nat.reduceSub, Nat.reduceDiv, Nat.reduceMod, Nat.reducePow, Nat.reduceEqDiff, ↓reduceIte, reduceCtorEq, true_and, and_true, and_self, false_and, and_false, Int.reduceToNat, Int.reduceAdd, Int.reduceSub, Int.reduceMul, cond_true, cond_false, List.toList_toArray, Option.map_some, Option.map_none, Option.some.injEq, List.cons_append, List.nil_append, List.length_cons, List.length_nil, List.getD_cons_zero, List.getD_cons_succ, f1]
          exact hR _ hMW
        | cons t0 t1 =>
          simp (config := { maxSteps := 1000000 }) (disch := first | omega | (simp only [sizeAlloc, sizeDrew, sizeSet, sizePut] <;> omega) | fail) only [GS1, GS2, GS3, GS4, GS5, GS6, GS7, GS8, GS9, GS10, GS11, TT_eq, TTl, Nat.reduceAdd, Nat.reduceMul, Nat.reduceSub, Nat.reduceDiv, Nat.reduceMod, Nat.reducePow, Nat.reduceEqDiff, ↓reduceIte, reduceCtorEq, true_and, and_true, and_self, false_and, and_false, Int.reduceToNat, Int.reduceAdd, Int.reduceSub, Int.reduceMul, cond_true, cond_false, List.toList_toArray, Option.map_some, Option.map_none, Option.some.injEq, List.cons_append, List.nil_append, List.length_cons, List.length_nil, List.getD_cons_zero, List.getD_cons_succ, f1]
          refine ⟨⟨j + 1, by omega, rfl, ?_⟩, by omega⟩
          rw [htk]
          intro s hs
          rcases List.mem_append.1 hs with hs | hs
          · exact hne s hs
          · rw [List.mem_singleton.1 hs]; simp
      · have e : j = L.length := by omega
        subst e
        rw [List.take_length] at hne
        rw [if_neg (by intro ha; obtain ⟨t, ht, h0⟩ := List.any_eq_true.1 ha; exact hne t ht (List.isEmpty_iff.1 h0))] at hR
        simp (config := { maxSteps := 1000000 }) (disch := first | omega | (simp only [sizeAlloc, sizeDrew, sizeSet, sizePut] <;> omega) | fail) only [GS1, GS2, GS3, GS4, GS5, GS6, GS7, GS8, GS9, GS10, GS11, TT_eq, TTl, Nat.reduceAdd, Nat.reduceMul, Nat.reduceSub, Nat.reduceDiv, Nat.reduceMod, Nat.reducePow, Nat.reduceEqDiff, ↓reduceIte, reduceCtorEq, true_and, and_true, and_self, false_and, and_false, Int.reduceToNat, Int.reduceAdd, Int.reduceSub, Int.reduceMul, cond_true, cond_false, List.toList_toArray, Option.map_some, Option.map_none, Option.some.injEq, List.cons_append, List.nil_append, List.length_cons, List.length_nil, List.getD_cons_zero, List.getD_cons_succ]
        refine ⟨fok40, tRow_cps _ L _ _ (by omega) hlen hrZ fun wV hMV => .inl ⟨_, rfl, hold_ops okT (rs := [.tmp 2, .tmp 3]) rfl ?_⟩⟩
        unfold stV
        simp (config := { maxSteps := 1000000 }) (disch := first | omega | (simp only [sizeAlloc, sizeDrew, sizeSet, sizePut] <;> omega) | fail) only [GS1, GS2, GS3, GS4, GS5, GS6, GS7, GS8, GS9, GS10, GS11, TT_eq, TTl, Nat.reduceAdd, Nat.reduceMul, Nat.reduceSub, Nat.reduceDiv, Nat.reduceMod, Nat.reducePow, Nat.reduceEqDiff, ↓reduceIte, reduceCtorEq, true_and, and_true, and_self, false_and, and_false, Int.reduceToNat, Int.reduceAdd, Int.reduceSub, Int.reduceMul, cond_true, cond_false, List.toList_toArray, Option.map_some, Option.map_none, Option.some.injEq, List.cons_append, List.nil_append, List.length_cons, List.length_nil, List.getD_cons_zero, List.getD_cons_succ]
        exact hR _ (hMW.trans hMV (by simp))
  · refine ht_eff okT rfl rfl (v := .pointer (some ⟨w2.heap.size, 0, none⟩)) (w' := w2.alloc (.cells #[.string ⟨#[]⟩, .int .i64 0, .int .i64 0, .nilFunc, .nilFunc, .nilFunc] 102)) (by simp (config := { maxSteps := 1000000 }) only [GS1, GS2, GS3, GS4, GS5, GS6, GS7, GS8, GS9, GS10, GS11, TT_eq, TTl, Nat.reduceAdd, Nat.reduceMul, Nat.reduceSub, Nat.reduceDiv, Nat.reduceMod, Nat.reducePow, Nat.reduceEqDiff, ↓reduceIte, reduceCtorEq, true_and, and_true, and_self, false_and, and_false, Int.reduceToNat, Int.reduceAdd, Int.reduceSub, Int.reduceMul, cond_true, cond_false, List.toList_toArray, Option.map_some, Option.map_none, Option.some.injEq, List.cons_append, List.nil_append, List.length_cons, List.length_nil, List.getD_cons_zero, List.getD_cons_succ]) ?_ ?_ ht_stop
    all_goals have hMa := (Mod.refl [] w2).alloc (.cells #[.string ⟨#[]⟩, .int .i64 0, .int .i64 0, .nilFunc, .nilFunc, .nilFunc] 102)
    all_goals have hka := heapNew (w := w2) (o := (.cells #[.string ⟨#[]⟩, .int .i64 0, .int .i64 0, .nilFunc, .nilFunc, .nilFunc] 102))
    all_goals generalize w2.alloc (.cells #[.string ⟨#[]⟩, .int .i64 0, .int .i64 0, .nilFunc, .nilFunc, .nilFunc] 102) = w3 at hMa hka ⊢
    · simp (config := { maxSteps := 1000000 }) only [GS1, GS2, GS3, GS4, GS5, GS6, GS7, GS8, GS9, GS10, GS11, TT_eq, TTl, Nat.reduceAdd, Nat.reduceMul, Nat.reduceSub, Nat.reduceDiv, Nat.reduceMod, Nat.reducePow, Nat.reduceEqDiff, ↓reduceIte, reduceCtorEq, true_and, and_true, and_self, false_and, and_false, Int.reduceToNat, Int.reduceAdd, Int.reduceSub, Int.reduceMul, cond_true, cond_false, List.toList_toArray, Option.map_some, Option.map_none, Option.some.injEq, List.cons_append, List.nil_append, List.length_cons, List.length_nil, List.getD_cons_zero, List.getD_cons_succ]
      exact cellM (c2 0) hMa
    have hh3 := hMa.get hh1 (by simp)
    have hM3 := hM1.trans hMa (by simp)
    have c3 := fun o => cellOf (o := o) hh3
    have hnb : n < w2.heap.size := (Array.getElem?_eq_some_iff.1 hh1).1
    have hwb := hM1.size
    generalize w2.heap.size = b4 at hka hnb hwb ⊢
    simp (config := { maxSteps := 1000000 }) only [GS1, GS2, GS3, GS4, GS5, GS6, GS7, GS8, GS9, GS10, GS11, TT_eq, TTl, Nat.reduceAdd, Nat.reduceMul, Nat.reduceSub, Nat.reduceDiv, Nat.reduceMod, Nat.reducePow, Nat.reduceEqDiff, ↓reduceIte, reduceCtorEq, true_and, and_true, and_self, false_and, and_false, Int.reduceToNat, Int.reduceAdd, Int.reduceSub, Int.reduceMul, cond_true, cond_false, List.toList_toArray, Option.map_some, Option.map_none, Option.some.injEq, List.cons_append, List.nil_append, List.length_cons, List.length_nil, List.getD_cons_zero, List.getD_cons_succ]
    refine ht_lin rfl (hold_dops okT (rs := [.tmp 2, .tmp 3]) rfl ?_)
    simp (config := { maxSteps := 1000000 }) (disch := first | omega | (simp only [sizeAlloc, sizeDrew, sizeSet, sizePut] <;> omega) | fail) only [GS1, GS2, GS3, GS4, GS5, GS6, GS7, GS8, GS9, GS10, GS11, TT_eq, TTl, Nat.reduceAdd, Nat.reduceMul, Nat.reduceSub, Nat.reduceDiv, Nat.reduceMod, Nat.reducePow, Nat.reduceEqDiff, ↓reduceIte, reduceCtorEq, true_and, and_true, and_self, false_and, and_false, Int.reduceToNat, Int.reduceAdd, Int.reduceSub, Int.reduceMul, cond_true, cond_false, List.toList_toArray, Option.map_some, Option.map_none, Option.some.injEq, List.cons_append, List.nil_append, List.length_cons, List.length_nil, List.getD_cons_zero, List.getD_cons_succ, c3]
    refine ⟨fok57, wKinds_cps _ _ fun m w4 hm hmn hM => .inl ⟨_, rfl, cellM (c3 0) hM, hold_dops okT (rs := [.tmp 2, .tmp 3]) rfl ?_⟩⟩
    have hh4 := hM.get hh3 (by simp)
    have hk4 := hM.get hka (by simp)
    have hM4 := hM3.trans hM (by simp)
    have c4 := fun o => cellOf (o := o) hh4
    have hl0 := look_w false hm.at hk
    rw [e] at hl0
    simp only [Bool.false_eq_true, if_false] at hl0
    simp (config := { maxSteps := 1000000 }) (disch := first | omega | (simp only [sizeAlloc, sizeDrew, sizeSet, sizePut] <;> omega) | fail) only [GS1, GS2, GS3, GS4, GS5, GS6, GS7, GS8, GS9, GS10, GS11, TT_eq, TTl, Nat.reduceAdd, Nat.reduceMul, Nat.reduceSub, Nat.reduceDiv, Nat.reduceMod, Nat.reducePow, Nat.reduceEqDiff, ↓reduceIte, reduceCtorEq, true_and, and_true, and_self, false_and, and_false, Int.reduceToNat, Int.reduceAdd, Int.reduceSub, Int.reduceMul, cond_true, cond_false, List.toList_toArray, Option.map_some, Option.map_none, Option.some.injEq, List.cons_append, List.nil_append, List.length_cons, List.length_nil, List.getD_cons_zero, List.getD_cons_succ, hl0, c4, oa, oc, cellOf hk4, frozenOf hk4]
    have hbW := st6 hk4 (x := .string ⟨(wordS k).toArray⟩) (y := .int .i64 mn) (z := .int .i64 mx) (u := fa) (v := (.func (.func (wrAt k)) #[] #[])) (q := fc)
    have hhW : (((((((w4).setCell ⟨b4, 0, none⟩ (.string ⟨(wordS k).toArray⟩)).setCell ⟨b4, 1, none⟩ (.int .i64 mn)).setCell ⟨b4, 2, none⟩ (.int .i64 mx)).setCell ⟨b4, 3, none⟩ fa).setCell ⟨b4, 4, none⟩ (.func (.func (wrAt k)) #[] #[])).setCell ⟨b4, 5, none⟩ fc).heap[n]? = _ := (heapSetNe (heapSetNe (heapSetNe (heapSetNe (heapSetNe (heapSetNe hh4 (by omega)) (by omega)) (by omega)) (by omega)) (by omega)) (by omega))
    have hMW : Mod [] w _ := ((((((hM4.set (p := ⟨b4, 0, none⟩) (.inr hwb) (.string ⟨(wordS k).toArray⟩)).set (p := ⟨b4, 1, none⟩) (.inr hwb) (.int .i64 mn)).set (p := ⟨b4, 2, none⟩) (.inr hwb) (.int .i64 mx)).set (p := ⟨b4, 3, none⟩) (.inr hwb) fa).set (p := ⟨b4, 4, none⟩) (.inr hwb) (.func (.func (wrAt k)) #[] #[])).set (p := ⟨b4, 5, none⟩) (.inr hwb) fc)
    revert hbW hhW hMW
    generalize (((((((w4).setCell ⟨b4, 0, none⟩ (.string ⟨(wordS k).toArray⟩)).setCell ⟨b4, 1, none⟩ (.int .i64 mn)).setCell ⟨b4, 2, none⟩ (.int .i64 mx)).setCell ⟨b4, 3, none⟩ fa).setCell ⟨b4, 4, none⟩ (.func (.func (wrAt k)) #[] #[])).setCell ⟨b4, 5, none⟩ fc) = w6
    intro hbW hhW hMW
    refine ⟨fok41, tData_cps (wordS k) (by have := word_len k; unfold maxLen; omega) _ _ fun w7 hM7 => .inl ⟨_, rfl, hold_ops okT (rs := [.tmp 2, .tmp 3]) rfl ?_⟩⟩
    have hh7 := hM7.get hhW (by simp)
    have hb7 := hM7.get hbW (by simp)
    have hMx := hMW.trans hM7 (by simp)
    unfold stV
    simp (config := { maxSteps := 1000000 }) (disch := first | omega | (simp only [sizeAlloc, sizeDrew, sizeSet, sizePut] <;> omega) | fail) only [GS1, GS2, GS3, GS4, GS5, GS6, GS7, GS8, GS9, GS10, GS11, TT_eq, TTl, Nat.reduceAdd, Nat.reduceMul, Nat.reduceSub, Nat.reduceDiv, Nat.reduceMod, Nat.reducePow, Nat.reduceEqDiff, ↓reduceIte, reduceCtorEq, true_and, and_true, and_self, false_and, and_false, Int.reduceToNat, Int.reduceAdd, Int.reduceSub, Int.reduceMul, cond_true, cond_false, List.toList_toArray, Option.map_some, Option.map_none, Option.some.injEq, List.cons_append, List.nil_append, List.length_cons, List.length_nil, List.getD_cons_zero, List.getD_cons_succ]
    have hown7 := rowNew (w := w7) (e := 9) (base := w7.heap.size) [strV (dataS (wordS k)).1] (by unfold maxLen; simp) (Nat.le_refl _)
    have hM8 := (Mod.refl [] w7).alloc (.cells #[strV (dataS (wordS k)).1] 9)
    have hh8 := hM8.get hh7 (by simp)
    have hb8 := hM8.get hb7 (by simp)
    have hs8 := hM8.size
    have hs7 := hMx.size
    have hn7 := (Array.getElem?_eq_some_iff.1 hh7).1
    have hb47 := (Array.getElem?_eq_some_iff.1 hb7).1
    change (w7.alloc (.cells #[strV (dataS (wordS k)).1] 9)).ownsRow _ _ _ _ _ _ at hown7
    rw [show (.string ⟨(dataS (wordS k)).1.toArray⟩ : Value) = strV (dataS (wordS k)).1 from rfl]
    generalize w7.alloc (.cells #[strV (dataS (wordS k)).1] 9) = w8 at *
    replace hMx := hMx.trans hM8 (by simp)
    generalize w7.heap.size = BS at *
    have c8 := fun o => cellOf (o := o) hh8
    by_cases h6 : (k : Int) = 6
    · have h6n : k = 6 := by omega
      have hown : w8.ownsRow BS 9 1 (.slice (some ⟨BS, 0, none⟩) 1 1) 1 ([(dataS (wordS k)).1].map strV) := hown7
      have hhX := hh8
      have hbX := hb8
      have hMX := hMx
      clear hown7 hh8 hb8 hMx
      have hva : ∃ va vc, (some ⟨BS, 0, none⟩ : Option Addr) = va ∧ (1 : Nat) = vc := ⟨_, _, rfl, rfl⟩
      obtain ⟨va, vc, e1, e2⟩ := hva
      rw [e1] at hown ⊢
      simp (config := { maxSteps := 1000000 }) (disch := first | omega | (simp only [sizeAlloc, sizeDrew, sizeSet, sizePut] <;> omega) | fail) only [GS1, GS2, GS3, GS4, GS5, GS6, GS7, GS8, GS9, GS10, GS11, TT_eq, TTl, Nat.reduceAdd, Nat.reduceMul, Nat.reduceSub, Nat.reduceDiv, Nat.reduceMod, Nat.reducePow, Nat.reduceEqDiff, ↓reduceIte, reduceCtorEq, true_and, and_true, and_self, false_and, and_false, Int.reduceToNat, Int.reduceAdd, Int.reduceSub, Int.reduceMul, cond_true, cond_false, List.toList_toArray, Option.map_some, Option.map_none, Option.some.injEq, List.cons_append, List.nil_append, List.length_cons, List.length_nil, List.getD_cons_zero, List.getD_cons_succ, c8, h6]
      have cX := fun o => cellOf (o := o) hhX
      have dX := fun o => cellOf (o := o) hbX
      have hsX := hMX.size
      simp (config := { maxSteps := 1000000 }) (disch := first | omega | (simp only [sizeAlloc, sizeDrew, sizeSet, sizePut] <;> omega) | fail) only [GS1, GS2, GS3, GS4, GS5, GS6, GS7, GS8, GS9, GS10, GS11, TT_eq, TTl, Nat.reduceAdd, Nat.reduceMul, Nat.reduceSub, Nat.reduceDiv, Nat.reduceMod, Nat.reducePow, Nat.reduceEqDiff, ↓reduceIte, reduceCtorEq, true_and, and_true, and_self, false_and, and_false, Int.reduceToNat, Int.reduceAdd, Int.reduceSub, Int.reduceMul, cond_true, cond_false, List.toList_toArray, Option.map_some, Option.map_none, Option.some.injEq, List.cons_append, List.nil_append, List.length_cons, List.length_nil, List.getD_cons_zero, List.getD_cons_succ, cX, dX]
      refine ⟨wr_ok k, hwr _ (ha.mod hMX (by simp)) _ fun rv wY hrv hMY => .inl ⟨_, rfl, hold_ops okT (rs := [.tmp 2, .tmp 3]) rfl ?_⟩⟩
      have hownY := ownsRow_mod hown hMY (by simp)
      have hMXY := hMX.trans hMY (by simp)
      have hrl := rowsL_len k ⟨k, (a, b, c), aud, mbs, body, yes, tag⟩
      have hsY := hMY.size
      obtain ⟨ra, rc, rfl⟩ := (Rd.own hrv).slice
      simp (config := { maxSteps := 1000000 }) (disch := first | omega | (simp only [sizeAlloc, sizeDrew, sizeSet, sizePut] <;> omega) | fail) only [GS1, GS2, GS3, GS4, GS5, GS6, GS7, GS8, GS9, GS10, GS11, TT_eq, TTl, Nat.reduceAdd, Nat.reduceMul, Nat.reduceSub, Nat.reduceDiv, Nat.reduceMod, Nat.reducePow, Nat.reduceEqDiff, ↓reduceIte, reduceCtorEq, true_and, and_true, and_self, false_and, and_false, Int.reduceToNat, Int.reduceAdd, Int.reduceSub, Int.reduceMul, cond_true, cond_false, List.toList_toArray, Option.map_some, Option.map_none, Option.some.injEq, List.cons_append, List.nil_append, List.length_cons, List.length_nil, List.getD_cons_zero, List.getD_cons_succ]
      refine hold_appendR okT rfl rfl rfl rfl (by decide) BS hownY rfl rfl (Rd.own hrv) (by intro u hu; obtain ⟨z, _, rfl⟩ := List.mem_map.1 hu; rfl) (by first | (simp only; omega) | (simp only [List.length_cons, List.length_nil]; omega) | (simp <;> omega)) (by unfold maxLen; first | (simp only; omega) | (simp only [List.length_cons, List.length_nil]; omega) | (simp <;> omega)) (by omega) fun v' wZ hownZ hMZ => hold_ops okT (rs := [.tmp 2, .tmp 3]) rfl ?_
      have hob : ∀ y ∈ (Value.slice va 1 1).ownBlock.toList, w.heap.size ≤ y := fun y hy => by have := (hownY.lt y (by simpa using hy)).1; omega
      have hMW := hMXY.trans hMZ (fun y hy => .inr (hob y hy))
      have hL : encL k ⟨k, (a, b, c), aud, mbs, body, yes, tag⟩ = [(dataS (wordS k)).1] ++ rowsL k ⟨k, (a, b, c), aud, mbs, body, yes, tag⟩ := by unfold encL; rw [if_pos h6n]; rfl
      have hcol : (([(dataS (wordS k)).1] : List (List UInt8)).map strV ++ (rowsL k ⟨k, (a, b, c), aud, mbs, body, yes, tag⟩).map strV) = (encL k ⟨k, (a, b, c), aud, mbs, body, yes, tag⟩).map strV := by rw [hL, List.map_append]
      have hcl : ([(dataS (wordS k)).1] : List (List UInt8)).length + (rowsL k ⟨k, (a, b, c), aud, mbs, body, yes, tag⟩).length = (encL k ⟨k, (a, b, c), aud, mbs, body, yes, tag⟩).length := by rw [hL, List.length_append]
      rw [hcol] at hownZ
      replace hownZ : wZ.ownsRow BS 9 1 v' (encL k ⟨k, (a, b, c), aud, mbs, body, yes, tag⟩).length ((encL k ⟨k, (a, b, c), aud, mbs, body, yes, tag⟩).map strV) := by rw [← hcl]; exact hownZ
      have hlen := encL_len hcB
      have hll : (encL k ⟨k, (a, b, c), aud, mbs, body, yes, tag⟩).length ≤ 5 := by rw [← hcl]; simp only [List.length_cons, List.length_nil]; omega
      clear hcol hcl hL hownY hrv hob
      obtain ⟨za, zc, rfl⟩ := (Rd.own hownZ).slice
      have hrZ := Rd.own hownZ
      generalize encL k ⟨k, (a, b, c), aud, mbs, body, yes, tag⟩ = L at *
      simp (config := { maxSteps := 1000000 }) (disch := first | omega | (simp only [sizeAlloc, sizeDrew, sizeSet, sizePut] <;> omega) | fail) only [GS1, GS2, GS3, GS4, GS5, GS6, GS7, GS8, GS9, GS10, GS11, TT_eq, TTl, Nat.reduceAdd, Nat.reduceMul, Nat.reduceSub, Nat.reduceDiv, Nat.reduceMod, Nat.reducePow, Nat.reduceEqDiff, ↓reduceIte, reduceCtorEq, true_and, and_true, and_self, false_and, and_false, Int.reduceToNat, Int.reduceAdd, Int.reduceSub, Int.reduceMul, cond_true, cond_false, List.toList_toArray, Option.map_some, Option.map_none, Option.some.injEq, List.cons_append, List.nil_append, List.length_cons, List.length_nil, List.getD_cons_zero, List.getD_cons_succ]
      refine hold_loop okT (rs := [.tmp 2, .tmp 3]) rfl [51] [2, 3, 12, 52, 53, 54, 55, 56, 57] (fun vs w' => ∃ j : Nat, j ≤ L.length ∧ vs = [.int .i64 j] ∧ w' = wZ ∧ ∀ t ∈ L.take j, t ≠ []) (fun vs _ => match vs with | [.int _ i] => L.length - i.toNat | _ => 0) (by kernel_rfl) ⟨0, by omega, rfl, rfl, by simp⟩ ?_
      rintro vs w' J ⟨j, hj, rfl, rfl, hne⟩
      by_cases hlt : j < L.length
      · obtain ⟨b1, o1, c1, e1, _, g1⟩ := hrZ.at (by omega) (by omega)
        have f1 := g1 j _ (getS hlt)
        rw [Value.slice.injEq] at e1
        obtain ⟨rfl, -, -⟩ := e1
        have htk := List.take_succ_eq_append_getElem hlt
        have hmem := List.getElem_mem hlt
        generalize L[j] = t at f1 htk hmem
        cases t with
        | nil =>
          rw [if_pos (List.any_eq_true.2 ⟨[], hmem, rfl⟩)] at hR
          simp (config := { maxSteps := 1000000 }) (disch := first | omega | (simp only [sizeAlloc, sizeDrew, sizeSet, sizePut] <;> omega) | fail) only [GS1, GS2, GS3, GS4, GS5, GS6, GS7, GS8, GS9, GS10, GS11, TT_eq, TTl, Nat.reduceAdd, Nat.reduceMul, Nat.reduceSub, Nat.reduceDiv, Nat.reduceMod, Nat.reducePow, Nat.reduceEqDiff, ↓reduceIte, reduceCtorEq, true_and, and_true, and_self, false_and, and_false, Int.reduceToNat, Int.reduceAdd, Int.reduceSub, Int.reduceMul, cond_true, cond_false, List.toList_toArray, Option.map_some, Option.map_none, Option.some.injEq, List.cons_append, List.nil_append, List.length_cons, List.length_nil, List.getD_cons_zero, List.getD_cons_succ, f1]
          exact hR _ hMW
        | cons t0 t1 =>
          simp (config := { maxSteps := 1000000 }) (disch := first | omega | (simp only [sizeAlloc, sizeDrew, sizeSet, sizePut] <;> omega) | fail) only [GS1, GS2, GS3, GS4, GS5, GS6, GS7, GS8, GS9, GS10, GS11, TT_eq, TTl, Nat.reduceAdd, Nat.reduceMul, Nat.reduceSub, Nat.reduceDiv, Nat.reduceMod, Nat.reducePow, Nat.reduceEqDiff, ↓reduceIte, reduceCtorEq, true_and, and_true, and_self, false_and, and_false, Int.reduceToNat, Int.reduceAdd, Int.reduceSub, Int.reduceMul, cond_true, cond_false, List.toList_toArray, Option.map_some, Option.map_none, Option.some.injEq, List.cons_append, List.nil_append, List.length_cons, List.length_nil, List.getD_cons_zero, List.getD_cons_succ, f1]
          refine ⟨⟨j + 1, by omega, rfl, ?_⟩, by omega⟩
          rw [htk]
          intro s hs
          rcases List.mem_append.1 hs with hs | hs
          · exact hne s hs
          · rw [List.mem_singleton.1 hs]; simp
      · have e : j = L.length := by omega
        subst e
        rw [List.take_length] at hne
        rw [if_neg (by intro ha; obtain ⟨t, ht, h0⟩ := List.any_eq_true.1 ha; exact hne t ht (List.isEmpty_iff.1 h0))] at hR
        simp (config := { maxSteps := 1000000 }) (disch := first | omega | (simp only [sizeAlloc, sizeDrew, sizeSet, sizePut] <;> omega) | fail) only [GS1, GS2, GS3, GS4, GS5, GS6, GS7, GS8, GS9, GS10, GS11, TT_eq, TTl, Nat.reduceAdd, Nat.reduceMul, Nat.reduceSub, Nat.reduceDiv, Nat.reduceMod, Nat.reducePow, Nat.reduceEqDiff, ↓reduceIte, reduceCtorEq, true_and, and_true, and_self, false_and, and_false, Int.reduceToNat, Int.reduceAdd, Int.reduceSub, Int.reduceMul, cond_true, cond_false, List.toList_toArray, Option.map_some, Option.map_none, Option.some.injEq, List.cons_append, List.nil_append, List.length_cons, List.length_nil, List.getD_cons_zero, List.getD_cons_succ]
        refine ⟨fok40, tRow_cps _ L _ _ (by omega) hlen hrZ fun wV hMV => .inl ⟨_, rfl, hold_ops okT (rs := [.tmp 2, .tmp 3]) rfl ?_⟩⟩
        unfold stV
        simp (config := { maxSteps := 1000000 }) (disch := first | omega | (simp only [sizeAlloc, sizeDrew, sizeSet, sizePut] <;> omega) | fail) only [GS1, GS2, GS3, GS4, GS5, GS6, GS7, GS8, GS9, GS10, GS11, TT_eq, TTl, Nat.reduceAdd, Nat.reduceMul, Nat.reduceSub, Nat.reduceDiv, Nat.reduceMod, Nat.reducePow, Nat.reduceEqDiff, ↓reduceIte, reduceCtorEq, true_and, and_true, and_self, false_and, and_false, Int.reduceToNat, Int.reduceAdd, Int.reduceSub, Int.reduceMul, cond_true, cond_false, List.toList_toArray, Option.map_some, Option.map_none, Option.some.injEq, List.cons_append, List.nil_append, List.length_cons, List.length_nil, List.getD_cons_zero, List.getD_cons_succ]
        exact hR _ (hMW.trans hMV (by simp))
    · have h6n : ¬ k = 6 := by omega
      simp (config := { maxSteps := 1000000 }) (disch := first | omega | (simp only [sizeAlloc, sizeDrew, sizeSet, sizePut] <;> omega) | fail) only [GS1, GS2, GS3, GS4, GS5, GS6, GS7, GS8, GS9, GS10, GS11, TT_eq, TTl, Nat.reduceAdd, Nat.reduceMul, Nat.reduceSub, Nat.reduceDiv, Nat.reduceMod, Nat.reducePow, Nat.reduceEqDiff, ↓reduceIte, reduceCtorEq, true_and, and_true, and_self, false_and, and_false, Int.reduceToNat, Int.reduceAdd, Int.reduceSub, Int.reduceMul, cond_true, cond_false, List.toList_toArray, Option.map_some, Option.map_none, Option.some.injEq, List.cons_append, List.nil_append, List.length_cons, List.length_nil, List.getD_cons_zero, List.getD_cons_succ, c8, h6]
      refine ⟨fok42, htx _ _ fun w9 hM9 => .inl ⟨_, rfl, hold_ops okT (rs := [.tmp 2, .tmp 3]) rfl ?_⟩⟩
      have hh9 := hM9.get hh8 (by simp)
      have hb9 := hM9.get hb8 (by simp)
      have hM09 := hMx.trans hM9 (by simp)
      have hown9 := ownsRow_mod hown7 hM9 (by simp)
      have hs9 := hM09.size
      have hs9' := hM9.size
      unfold stV
      simp (config := { maxSteps := 1000000 }) (disch := first | omega | (simp only [sizeAlloc, sizeDrew, sizeSet, sizePut] <;> omega) | fail) only [GS1, GS2, GS3, GS4, GS5, GS6, GS7, GS8, GS9, GS10, GS11, TT_eq, TTl, Nat.reduceAdd, Nat.reduceMul, Nat.reduceSub, Nat.reduceDiv, Nat.reduceMod, Nat.reducePow, Nat.reduceEqDiff, ↓reduceIte, reduceCtorEq, true_and, and_true, and_self, false_and, and_false, Int.reduceToNat, Int.reduceAdd, Int.reduceSub, Int.reduceMul, cond_true, cond_false, List.toList_toArray, Option.map_some, Option.map_none, Option.some.injEq, List.cons_append, List.nil_append, List.length_cons, List.length_nil, List.getD_cons_zero, List.getD_cons_succ]
      refine hold_append1 okT rfl rfl rfl rfl rfl BS hown9 rfl rfl (u := strV (txnS (a, b, c)).1) rfl (by first | (simp only; omega) | (simp only [List.length_cons, List.length_nil]; omega) | (simp <;> omega)) (by unfold maxLen; simp) (by omega) fun v8 wX hown hMx9 _ => hold_ops okT (rs := [.tmp 2, .tmp 3]) rfl ?_
      have hob9 : ∀ y ∈ (Value.slice (some ⟨BS, 0, none⟩) 1 1).ownBlock.toList, BS ≤ y := fun y hy => (hown9.lt y (by simpa using hy)).1
      have hMX := hM09.trans hMx9 (fun y hy => .inr (by have := hob9 y hy; omega))
      have hhX := hMx9.get hh9 (fun hy => by have := hob9 n hy; omega)
      have hbX := hMx9.get hb9 (fun hy => by have := hob9 b4 hy; omega)
      replace hown : wX.ownsRow BS 9 1 v8 2 ([(dataS (wordS k)).1, (txnS (a, b, c)).1].map strV) := hown
      have hsX9 := hMx9.size
      clear hob9 hMx9 hh9 hb9 hM09 hown9 hown7 hh8 hb8 hMx
      obtain ⟨va, vc, rfl⟩ := (Rd.own hown).slice
      have cX := fun o => cellOf (o := o) hhX
      have dX := fun o => cellOf (o := o) hbX
      have hsX := hMX.size
      simp (config := { maxSteps := 1000000 }) (disch := first | omega | (simp only [sizeAlloc, sizeDrew, sizeSet, sizePut] <;> omega) | fail) only [GS1, GS2, GS3, GS4, GS5, GS6, GS7, GS8, GS9, GS10, GS11, TT_eq, TTl, Nat.reduceAdd, Nat.reduceMul, Nat.reduceSub, Nat.reduceDiv, Nat.reduceMod, Nat.reducePow, Nat.reduceEqDiff, ↓reduceIte, reduceCtorEq, true_and, and_true, and_self, false_and, and_false, Int.reduceToNat, Int.reduceAdd, Int.reduceSub, Int.reduceMul, cond_true, cond_false, List.toList_toArray, Option.map_some, Option.map_none, Option.some.injEq, List.cons_append, List.nil_append, List.length_cons, List.length_nil, List.getD_cons_zero, List.getD_cons_succ, cX, dX]
      refine ⟨wr_ok k, hwr _ (ha.mod hMX (by simp)) _ fun rv wY hrv hMY => .inl ⟨_, rfl, hold_ops okT (rs := [.tmp 2, .tmp 3]) rfl ?_⟩⟩
      have hownY := ownsRow_mod hown hMY (by simp)
      have hMXY := hMX.trans hMY (by simp)
      have hrl := rowsL_len k ⟨k, (a, b, c), aud, mbs, body, yes, tag⟩
      have hsY := hMY.size
      obtain ⟨ra, rc, rfl⟩ := (Rd.own hrv).slice
      simp (config := { maxSteps := 1000000 }) (disch := first | omega | (simp only [sizeAlloc, sizeDrew, sizeSet, sizePut] <;> omega) | fail) only [GS1, GS2, GS3, GS4, GS5, GS6, GS7, GS8, GS9, GS10, GS11, TT_eq, TTl, Nat.reduceAdd, Nat.reduceMul, Nat.reduceSub, Nat.reduceDiv, Nat.reduceMod, Nat.reducePow, Nat.reduceEqDiff, ↓reduceIte, reduceCtorEq, true_and, and_true, and_self, false_and, and_false, Int.reduceToNat, Int.reduceAdd, Int.reduceSub, Int.reduceMul, cond_true, cond_false, List.toList_toArray, Option.map_some, Option.map_none, Option.some.injEq, List.cons_append, List.nil_append, List.length_cons, List.length_nil, List.getD_cons_zero, List.getD_cons_succ]
      refine hold_appendR okT rfl rfl rfl rfl (by decide) BS hownY rfl rfl (Rd.own hrv) (by intro u hu; obtain ⟨z, _, rfl⟩ := List.mem_map.1 hu; rfl) (by first | (simp only; omega) | (simp only [List.length_cons, List.length_nil]; omega) | (simp <;> omega)) (by unfold maxLen; first | (simp only; omega) | (simp only [List.length_cons, List.length_nil]; omega) | (simp <;> omega)) (by omega) fun v' wZ hownZ hMZ => hold_ops okT (rs := [.tmp 2, .tmp 3]) rfl ?_
      have hob : ∀ y ∈ (Value.slice va 2 vc).ownBlock.toList, w.heap.size ≤ y := fun y hy => by have := (hownY.lt y (by simpa using hy)).1; omega
      have hMW := hMXY.trans hMZ (fun y hy => .inr (hob y hy))
      have hL : encL k ⟨k, (a, b, c), aud, mbs, body, yes, tag⟩ = [(dataS (wordS k)).1, (txnS (a, b, c)).1] ++ rowsL k ⟨k, (a, b, c), aud, mbs, body, yes, tag⟩ := by unfold encL; rw [if_neg h6n]; rfl
      have hcol : (([(dataS (wordS k)).1, (txnS (a, b, c)).1] : List (List UInt8)).map strV ++ (rowsL k ⟨k, (a, b, c), aud, mbs, body, yes, tag⟩).map strV) = (encL k ⟨k, (a, b, c), aud, mbs, body, yes, tag⟩).map strV := by rw [hL, List.map_append]
      have hcl : ([(dataS (wordS k)).1, (txnS (a, b, c)).1] : List (List UInt8)).length + (rowsL k ⟨k, (a, b, c), aud, mbs, body, yes, tag⟩).length = (encL k ⟨k, (a, b, c), aud, mbs, body, yes, tag⟩).length := by rw [hL, List.length_append]
      rw [hcol] at hownZ
      replace hownZ : wZ.ownsRow BS 9 1 v' (encL k ⟨k, (a, b, c), aud, mbs, body, yes, tag⟩).length ((encL k ⟨k, (a, b, c), aud, mbs, body, yes, tag⟩).map strV) := by rw [← hcl]; exact hownZ
      have hlen := encL_len hcB
      have hll : (encL k ⟨k, (a, b, c), aud, mbs, body, yes, tag⟩).length ≤ 5 := by rw [← hcl]; simp only [List.length_cons, List.length_nil]; omega
      clear hcol hcl hL hownY hrv hob
      obtain ⟨za, zc, rfl⟩ := (Rd.own hownZ).slice
      have hrZ := Rd.own hownZ
      generalize encL k ⟨k, (a, b, c), aud, mbs, body, yes, tag⟩ = L at *
      simp (config := { maxSteps := 1000000 }) (disch := first | omega | (simp only [sizeAlloc, sizeDrew, sizeSet, sizePut] <;> omega) | fail) only [GS1, GS2, GS3, GS4, GS5, GS6, GS7, GS8, GS9, GS10, GS11, TT_eq, TTl, Nat.reduceAdd, Nat.reduceMul, Nat.reduceSub, Nat.reduceDiv, Nat.reduceMod, Nat.reducePow, Nat.reduceEqDiff, ↓reduceIte, reduceCtorEq, true_and, and_true, and_self, false_and, and_false, Int.reduceToNat, Int.reduceAdd, Int.reduceSub, Int.reduceMul, cond_true, cond_false, List.toList_toArray, Option.map_some, Option.map_none, Option.some.injEq, List.cons_append, List.nil_append, List.length_cons, List.length_nil, List.getD_cons_zero, List.getD_cons_succ]
      refine hold_loop okT (rs := [.tmp 2, .tmp 3]) rfl [51] [2, 3, 12, 52, 53, 54, 55, 56, 57] (fun vs w' => ∃ j : Nat, j ≤ L.length ∧ vs = [.int .i64 j] ∧ w' = wZ ∧ ∀ t ∈ L.take j, t ≠ []) (fun vs _ => match vs with | [.int _ i] => L.length - i.toNat | _ => 0) (by kernel_rfl) ⟨0, by omega, rfl, rfl, by simp⟩ ?_
      rintro vs w' J ⟨j, hj, rfl, rfl, hne⟩
      by_cases hlt : j < L.length
      · obtain ⟨b1, o1, c1, e1, _, g1⟩ := hrZ.at (by omega) (by omega)
        have f1 := g1 j _ (getS hlt)
        rw [Value.slice.injEq] at e1
        obtain ⟨rfl, -, -⟩ := e1
        have htk := List.take_succ_eq_append_getElem hlt
        have hmem := List.getElem_mem hlt
        generalize L[j] = t at f1 htk hmem
        cases t with
        | nil =>
          rw [if_pos (List.any_eq_true.2 ⟨[], hmem, rfl⟩)] at hR
          simp (config := { maxSteps := 1000000 }) (disch := first | omega | (simp only [sizeAlloc, sizeDrew, sizeSet, sizePut] <;> omega) | fail) only [GS1, GS2, GS3, GS4, GS5, GS6, GS7, GS8, GS9, GS10, GS11, TT_eq, TTl, Nat.reduceAdd, Nat.reduceMul, Nat.reduceSub, Nat.reduceDiv, Nat.reduceMod, Nat.reducePow, Nat.reduceEqDiff, ↓reduceIte, reduceCtorEq, true_and, and_true, and_self, false_and, and_false, Int.reduceToNat, Int.reduceAdd, Int.reduceSub, Int.reduceMul, cond_true, cond_false, List.toList_toArray, Option.map_some, Option.map_none, Option.some.injEq, List.cons_append, List.nil_append, List.length_cons, List.length_nil, List.getD_cons_zero, List.getD_cons_succ, f1]
          exact hR _ hMW
        | cons t0 t1 =>
          simp (config := { maxSteps := 1000000 }) (disch := first | omega | (simp only [sizeAlloc, sizeDrew, sizeSet, sizePut] <;> omega) | fail) only [GS1, GS2, GS3, GS4, GS5, GS6, GS7, GS8, GS9, GS10, GS11, TT_eq, TTl, Nat.reduceAdd, Nat.reduceMul, Nat.reduceSub, Nat.reduceDiv, Nat.reduceMod, Nat.reducePow, Nat.reduceEqDiff, ↓reduceIte, reduceCtorEq, true_and, and_true, and_self, false_and, and_false, Int.reduceToNat, Int.reduceAdd, Int.reduceSub, Int.reduceMul, cond_true, cond_false, List.toList_toArray, Option.map_some, Option.map_none, Option.some.injEq, List.cons_append, List.nil_append, List.length_cons, List.length_nil, List.getD_cons_zero, List.getD_cons_succ, f1]
          refine ⟨⟨j + 1, by omega, rfl, ?_⟩, by omega⟩
          rw [htk]
          intro s hs
          rcases List.mem_append.1 hs with hs | hs
          · exact hne s hs
          · rw [List.mem_singleton.1 hs]; simp
      · have e : j = L.length := by omega
        subst e
        rw [List.take_length] at hne
        rw [if_neg (by intro ha; obtain ⟨t, ht, h0⟩ := List.any_eq_true.1 ha; exact hne t ht (List.isEmpty_iff.1 h0))] at hR
        simp (config := { maxSteps := 1000000 }) (disch := first | omega | (simp only [sizeAlloc, sizeDrew, sizeSet, sizePut] <;> omega) | fail) only [GS1, GS2, GS3, GS4, GS5, GS6, GS7, GS8, GS9, GS10, GS11, TT_eq, TTl, Nat.reduceAdd, Nat.reduceMul, Nat.reduceSub, Nat.reduceDiv, Nat.reduceMod, Nat.reducePow, Nat.reduceEqDiff, ↓reduceIte, reduceCtorEq, true_and, and_true, and_self, false_and, and_false, Int.reduceToNat, Int.reduceAdd, Int.reduceSub, Int.reduceMul, cond_true, cond_false, List.toList_toArray, Option.map_some, Option.map_none, Option.some.injEq, List.cons_append, List.nil_append, List.length_cons, List.length_nil, List.getD_cons_zero, List.getD_cons_succ]
        refine ⟨fok40, tRow_cps _ L _ _ (by omega) hlen hrZ fun wV hMV => .inl ⟨_, rfl, hold_ops okT (rs := [.tmp 2, .tmp 3]) rfl ?_⟩⟩
        unfold stV
        simp (config := { maxSteps := 1000000 }) (disch := first | omega | (simp only [sizeAlloc, sizeDrew, sizeSet, sizePut] <;> omega) | fail) only [GS1, GS2, GS3, GS4, GS5, GS6, GS7, GS8, GS9, GS10, GS11, TT_eq, TTl, Nat.reduceAdd, Nat.reduceMul, Nat.reduceSub, Nat.reduceDiv, Nat.reduceMod, Nat.reducePow, Nat.reduceEqDiff, ↓reduceIte, reduceCtorEq, true_and, and_true, and_self, false_and, and_false, Int.reduceToNat, Int.reduceAdd, Int.reduceSub, Int.reduceMul, cond_true, cond_false, List.toList_toArray, Option.map_some, Option.map_none, Option.some.injEq, List.cons_append, List.nil_append, List.length_cons, List.length_nil, List.getD_cons_zero, List.getD_cons_succ]
        exact hR _ (hMW.trans hMV (by simp))
end Go.Proofs.Ytpcilobbohokcaa
