/-
  WireParts (walk).
-/
import Derived.Test.YtpcilobbohokcaaGreatRefE
import Derived.Test.YtpcilobbohokcaaGreatRcp5
import Derived.Test.YtpcilobbohokcaaGreatW6
set_option linter.unusedSimpArgs false
set_option linter.unusedVariables false
set_option maxRecDepth 20000
namespace Go.Proofs.YtpcilobbohokcaaGreat
open Go Go.Wk Go.RowKit
attribute [local irreducible] go Hold
open Go.Lib
/-- 'append(s, x..)' of any slice that is read, in a drawn region. -/
theorem hold_dappendR {P : Program} {T : Tab} (hP : Ok P T) {V : Env} {R : Ending → World → Prop} {F : Exit → Act → World → Prop} {all : List Oper} {mm : List Nat} {ix : Nat} {o : Oper} {C : List (Nat × Oper)} {pnd : List PR} {k : List KI} {fs : List Value} {w : World} {s x : Operand} {t e : Nat} {i : TI}
    (ho : o.op = .call ⟨.builtin .append, #[s, x], #[t, t]⟩) (ht : kOf T t = .slice e) (he : T e = some i) (hz : lenL i.zero = i.size) (hs : 0 < i.size) (base : Nat) {v u : Value} {n m : Nat} {xs news : List Value} (hown : w.ownsRow base e i.size v n xs)
    (hv : ev fs s = v) (hu : ev fs x = u) (hx : Rd w i.size u m news) (h1 : ∀ u ∈ news, u.oneCell' = true) (hb : (n + m) * i.bytes ≤ 140737488355328) (hn : n + m ≤ maxLen) (hbase : base ≤ w.heap.size)
    (h : ∀ v' w', w'.ownsRow base e i.size v' (n + m) (xs ++ news) → Wk.Mod v.ownBlock.toList w w' → staysP T mm ix w' pnd ∧ Hold P T V R F (.dops all mm C pnd) k (put fs o.dst v') w') : Hold P T V R F (.deff none all mm ix o C pnd) k fs w := by
  obtain ⟨ty, cs, hr⟩ := exec_builtin (P := P) (fs := fs) ho w
  obtain ⟨v', w', a1, a2, a3⟩ := runR (P := P) hP ht he hz hs base hown hx h1 hn hb hbase ty cs
  have hh := h v' w' a2 a3
  refine hold_deffV (v := v') (w' := w') ?_ hh.1 hh.2
  rw [hr]; simp only [evs, hv, hu]; exact a1
theorem unmb_small {c : Int} {S : List UInt8} {l : List Mb} (h : unmbS c S = some l) : l.length ≤ 6 := by
  have hB := (unmb_back h).2
  unfold mbB at hB
  rw [Bool.and_eq_true] at hB
  exact (of_decide_eq_true hB.2).2
theorem longB_is {l : List Mb} (h : longB l = false) : l.length ≤ 20 := by
  unfold longB at h
  simp only [Bool.or_eq_false_iff] at h
  have := of_decide_eq_false h.1
  omega
set_option maxRecDepth 20000 in
set_option maxHeartbeats 32000000 in
theorem parts_cps (x : Tx) (sl : Value) (l : List Mb) (t : List UInt8) (w : World) (R : Ending → World → Prop) (ht : t.length ≤ maxLen) (hml : MbsIn w sl l) (hR : ∀ w', Mod [] w w' → R (.returned (.bool true)) w') :
    Calls Tryz.prog 7 #[txV x, sl, .string ⟨t.toArray⟩] w R := by
  have hLg := Long12_cps sl l
  have hTw := wTxn_cps x
  have hTr := rTxn12_cps x
  have hMw := wMembers_cps x
  have hMr := rMembers12_cps x sl l
  have hBw := wMayTxn_cps x
  have hBr := rMayTxn_cps x
  have hCw := wMayMembers_cps x sl l
  have hCr := rMayMembers_cps x sl l
  have hRMw := wReadMembers_cps x t ht
  have hRMr := rReadMembers12_cps x t ht
  have hRMm := fun S hS => wReadMembers_cps x S hS
  generalize hPt : txnS x = Pt at hTw hTr
  obtain ⟨a, b, c⟩ := x
  unfold txV at *
  simp only at *
  generalize hPm : mbrsS a l = Pm at hMr
  obtain ⟨tT, f⟩ := Pt
  obtain ⟨mT, g⟩ := Pm
  obtain ⟨la, lc, rfl⟩ := hml.rd.slice
  refine calls_go 4000 okT Tryz.func7 rfl (rs := [.tmp 6]) rfl Tryz.ntmps7 (args := [.agg #[.int .i64 a, .int .i64 b, .int .i64 c], .slice la l.length lc, .string ⟨t.toArray⟩]) ?_
  simp (maxSteps := 1000000) (disch := first | omega | (simp only [sizeAlloc, sizeDrew, sizeSet, sizePut] <;> omega) | fail) only [GS, TT_eq, TTl, Nat.reduceAdd, Nat.reduceMul, Nat.reduceSub, Nat.reduceDiv, Nat.reduceMod, Nat.reducePow, Nat.reduceEqDiff, ↓reduceIte, reduceCtorEq, Int.reduceToNat, Int.reduceAdd, Int.reduceSub, Int.reduceMul]
  have hM0 := (Mod.refl [] w).alloc (.cells #[.int .i64 a, .int .i64 b, .int .i64 c] 24)
  have hA := heapNew (w := w) (o := .cells #[.int .i64 a, .int .i64 b, .int .i64 c] 24)
  generalize w.alloc (.cells #[.int .i64 a, .int .i64 b, .int .i64 c] 24) = w1 at hM0 hA ⊢
  generalize hn : w.heap.size = n at *
  refine ⟨fok37, hLg _ _ hml.len hml.dig (hml.rd.mod hM0 (by simp)) (.inl ⟨_, rfl, hold_ops okT (rs := [.tmp 6]) rfl ?_⟩)⟩
  cases hlB : longB l
  rotate_left
  · simp (maxSteps := 1000000) (disch := first | omega | (simp only [sizeAlloc, sizeDrew, sizeSet, sizePut] <;> omega) | fail) only [GS, TT_eq, TTl, Nat.reduceAdd, Nat.reduceMul, Nat.reduceSub, Nat.reduceDiv, Nat.reduceMod, Nat.reducePow, Nat.reduceEqDiff, ↓reduceIte, reduceCtorEq, Int.reduceToNat, Int.reduceAdd, Int.reduceSub, Int.reduceMul]
    refine ⟨fok15, alive12_cps _ _ fun w2 hM2 => .inl ⟨_, rfl, hold_ops okT (rs := [.tmp 6]) rfl ?_⟩⟩
    simp (maxSteps := 1000000) (disch := first | omega | (simp only [sizeAlloc, sizeDrew, sizeSet, sizePut] <;> omega) | fail) only [GS, TT_eq, TTl, Nat.reduceAdd, Nat.reduceMul, Nat.reduceSub, Nat.reduceDiv, Nat.reduceMod, Nat.reducePow, Nat.reduceEqDiff, ↓reduceIte, reduceCtorEq, Int.reduceToNat, Int.reduceAdd, Int.reduceSub, Int.reduceMul]
    exact hR _ (hM0.trans hM2 (by simp))
  have hl20 := longB_is hlB
  by_cases hlt : (20000 : Int) < ((t.length : Nat) : Int)
  · simp (maxSteps := 1000000) (disch := first | omega | (simp only [sizeAlloc, sizeDrew, sizeSet, sizePut] <;> omega) | fail) only [GS, TT_eq, TTl, Nat.reduceAdd, Nat.reduceMul, Nat.reduceSub, Nat.reduceDiv, Nat.reduceMod, Nat.reducePow, Nat.reduceEqDiff, ↓reduceIte, reduceCtorEq, Int.reduceToNat, Int.reduceAdd, Int.reduceSub, Int.reduceMul, hlt]
    refine ⟨fok15, alive12_cps _ _ fun w2 hM2 => .inl ⟨_, rfl, hold_ops okT (rs := [.tmp 6]) rfl ?_⟩⟩
    simp (maxSteps := 1000000) (disch := first | omega | (simp only [sizeAlloc, sizeDrew, sizeSet, sizePut] <;> omega) | fail) only [GS, TT_eq, TTl, Nat.reduceAdd, Nat.reduceMul, Nat.reduceSub, Nat.reduceDiv, Nat.reduceMod, Nat.reducePow, Nat.reduceEqDiff, ↓reduceIte, reduceCtorEq, Int.reduceToNat, Int.reduceAdd, Int.reduceSub, Int.reduceMul]
    exact hR _ (hM0.trans hM2 (by simp))
  have cA := fun o => cellOf (o := o) hA
  simp (maxSteps := 1000000) (disch := first | omega | (simp only [sizeAlloc, sizeDrew, sizeSet, sizePut] <;> omega) | fail) only [GS, TT_eq, TTl, Nat.reduceAdd, Nat.reduceMul, Nat.reduceSub, Nat.reduceDiv, Nat.reduceMod, Nat.reducePow, Nat.reduceEqDiff, ↓reduceIte, reduceCtorEq, Int.reduceToNat, Int.reduceAdd, Int.reduceSub, Int.reduceMul, hlt, cA]
  unfold stV at hTw hTr hMr
  simp only at hTw hTr hMr
  refine ⟨fok38, hTw _ _ fun w2 hM2 => .inl ⟨_, rfl, hold_ops okT (rs := [.tmp 6]) rfl ?_⟩⟩
  have hM02 := hM0.trans hM2 (by simp)
  have hA2 := hM2.get hA (by simp)
  have cA2 := fun o => cellOf (o := o) hA2
  simp (maxSteps := 1000000) (disch := first | omega | (simp only [sizeAlloc, sizeDrew, sizeSet, sizePut] <;> omega) | fail) only [GS, TT_eq, TTl, Nat.reduceAdd, Nat.reduceMul, Nat.reduceSub, Nat.reduceDiv, Nat.reduceMod, Nat.reducePow, Nat.reduceEqDiff, ↓reduceIte, reduceCtorEq, Int.reduceToNat, Int.reduceAdd, Int.reduceSub, Int.reduceMul, cA2]
  refine ⟨fok39, hTr _ _ fun w3 hM3 => .inl ⟨_, rfl, hold_ops okT (rs := [.tmp 6]) rfl ?_⟩⟩
  have hM03 := hM02.trans hM3 (by simp)
  have hA3 := hM3.get hA2 (by simp)
  clear hA hA2 cA cA2 hM0 hM02 hM2 hM3
  simp (maxSteps := 1000000) (disch := first | omega | (simp only [sizeAlloc, sizeDrew, sizeSet, sizePut] <;> omega) | fail) only [GS, TT_eq, TTl, Nat.reduceAdd, Nat.reduceMul, Nat.reduceSub, Nat.reduceDiv, Nat.reduceMod, Nat.reducePow, Nat.reduceEqDiff, ↓reduceIte, reduceCtorEq, Int.reduceToNat, Int.reduceAdd, Int.reduceSub, Int.reduceMul]
  refine hold_draw okT (rs := [.tmp 6]) rfl [0, 0, 2, 7, 15, 31, 31, 63, 255] [0, 1, 2, 3, 4, 5, 6, 7, 8] (by kernel_rfl) (by kernel_rfl) ?_
  have hA4 : (w3.drewN 1).heap[n]? = _ := hA3
  have hM04 := hM03.drewN 1
  generalize w3.drewN 1 = w4 at *
  have cA4 := fun o => cellOf (o := o) hA4
  have hag : ∀ w' : World, Mod [] w4 w' → aggO (consO (w'.cell? ⟨n, 0, none⟩) (consO (w'.cell? ⟨n, 1, none⟩) (consO (w'.cell? ⟨n, 2, none⟩) (some [])))) = some (.agg #[.int .i64 a, .int .i64 b, .int .i64 c]) := by
    intro w' hm
    rw [cellM (show w4.cell? ⟨n, 0, none⟩ = some (.int .i64 a) from cA4 0) hm, cellM (show w4.cell? ⟨n, 1, none⟩ = some (.int .i64 b) from cA4 1) hm, cellM (show w4.cell? ⟨n, 2, none⟩ = some (.int .i64 c) from cA4 2) hm]
    rfl
  simp (maxSteps := 1000000) (disch := first | omega | (simp only [sizeAlloc, sizeDrew, sizeSet, sizePut] <;> omega) | fail) only [GS, TT_eq, TTl, Nat.reduceAdd, Nat.reduceMul, Nat.reduceSub, Nat.reduceDiv, Nat.reduceMod, Nat.reducePow, Nat.reduceEqDiff, ↓reduceIte, reduceCtorEq, Int.reduceToNat, Int.reduceAdd, Int.reduceSub, Int.reduceMul, cA4]
  refine hold_dappendR okT rfl rfl rfl rfl (by decide) w4.heap.size (World.ownsRow_nil _ _ _ _) rfl rfl (hml.rd.mod hM04 (by simp)) (by intro u hu; obtain ⟨z, _, hz⟩ := List.mem_flatMap.1 hu; simp only [mbC, List.mem_cons, List.not_mem_nil, or_false] at hz; rcases hz with rfl | rfl <;> rfl) (by simp only; omega) (by unfold maxLen; omega) (Nat.le_refl _) fun sv w5 hown hM5 => ⟨?_, hold_dops okT (rs := [.tmp 6]) rfl ?_⟩
  · have hM5 : Mod [] w4 w5 := hM5
    simp (maxSteps := 1000000) only [GS, TT_eq, TTl, Nat.reduceAdd, Nat.reduceMul, Nat.reduceSub, Nat.reduceDiv, Nat.reduceMod, Nat.reducePow, Nat.reduceEqDiff, ↓reduceIte, reduceCtorEq, Int.reduceToNat, Int.reduceAdd, Int.reduceSub, Int.reduceMul]
    exact hag _ hM5
  have hM5 : Mod [] w4 w5 := hM5
  rw [List.nil_append, Nat.zero_add] at hown
  have hM05 := hM04.trans hM5 (by simp)
  have hA5 := hM5.get hA4 (by simp)
  simp (maxSteps := 1000000) (disch := first | omega | (simp only [sizeAlloc, sizeDrew, sizeSet, sizePut] <;> omega) | fail) only [GS, TT_eq, TTl, Nat.reduceAdd, Nat.reduceMul, Nat.reduceSub, Nat.reduceDiv, Nat.reduceMod, Nat.reducePow, Nat.reduceEqDiff, ↓reduceIte, reduceCtorEq, Int.reduceToNat, Int.reduceAdd, Int.reduceSub, Int.reduceMul]
  refine ⟨fok40, hMw sv l _ _ (by omega) hml.dig (Rd.own hown) fun w6 hM6 => .inl ⟨_, rfl, ?_⟩⟩
  first | refine hold_dops okT (rs := [.tmp 6]) rfl ?_ | refine ⟨(by repeat' (first | exact hag _ (hM5.trans hM6 (by simp)) | apply And.intro)), hold_dops okT (rs := [.tmp 6]) rfl ?_⟩
  rw [hPm]
  unfold stV
  have hM06 := hM05.trans hM6 (by simp)
  have hA6 := hM6.get hA5 (by simp)
  have cA6 := fun o => cellOf (o := o) hA6
  clear hA3 hM03 hA4 hM04 cA4 hag hown hM5 hM05 hA5 hM6
  simp (maxSteps := 1000000) (disch := first | omega | (simp only [sizeAlloc, sizeDrew, sizeSet, sizePut] <;> omega) | fail) only [GS, TT_eq, TTl, Nat.reduceAdd, Nat.reduceMul, Nat.reduceSub, Nat.reduceDiv, Nat.reduceMod, Nat.reducePow, Nat.reduceEqDiff, ↓reduceIte, reduceCtorEq, Int.reduceToNat, Int.reduceAdd, Int.reduceSub, Int.reduceMul, cA6]
  refine ⟨fok41, hMr _ _ (by omega) hml.dig (hml.rd.mod hM06 (by simp)) fun w7 hM7 => .inl ⟨_, rfl, hold_ops okT (rs := [.tmp 6]) rfl ?_⟩⟩
  have hM07 := hM06.trans hM7 (by simp)
  have hA7 := hM7.get hA6 (by simp)
  clear hA6 cA6 hM06 hM7
  simp (maxSteps := 1000000) (disch := first | omega | (simp only [sizeAlloc, sizeDrew, sizeSet, sizePut] <;> omega) | fail) only [GS, TT_eq, TTl, Nat.reduceAdd, Nat.reduceMul, Nat.reduceSub, Nat.reduceDiv, Nat.reduceMod, Nat.reducePow, Nat.reduceEqDiff, ↓reduceIte, reduceCtorEq, Int.reduceToNat, Int.reduceAdd, Int.reduceSub, Int.reduceMul, eq_self]
  refine hold_draw okT (rs := [.tmp 6]) rfl [0, 0, 3, 7, 15, 15, 63, 127, 255, 511, 511, 2047, 4095, 8191, 16383, 16383, 65535, 131071, 262143, 524287, 1048575, 524287, 4194303, 8388607, 16777215, 33554431, 67108863, 67108863, 268435455, 67108863, 67108863, 2147483647, 4294967295, 8589934591] [0, 1, 2, 3, 4, 5, 6, 7, 8, 9, 10, 11, 12, 13, 14, 15, 16, 17, 18, 19, 21, 20, 22, 23, 24, 25, 26, 27, 29, 30, 28, 31, 32, 33] (by kernel_rfl) (by kernel_rfl) ?_
  have hA8 : (w7.drewN 1).heap[n]? = _ := hA7
  have hM08 := hM07.drewN 1
  generalize w7.drewN 1 = w8 at *
  have cA8 := fun o => cellOf (o := o) hA8
  have hag : ∀ w' : World, Mod [] w8 w' → aggO (consO (w'.cell? ⟨n, 0, none⟩) (consO (w'.cell? ⟨n, 1, none⟩) (consO (w'.cell? ⟨n, 2, none⟩) (some [])))) = some (.agg #[.int .i64 a, .int .i64 b, .int .i64 c]) := by
    intro w' hm
    rw [cellM (show w8.cell? ⟨n, 0, none⟩ = some (.int .i64 a) from cA8 0) hm, cellM (show w8.cell? ⟨n, 1, none⟩ = some (.int .i64 b) from cA8 1) hm, cellM (show w8.cell? ⟨n, 2, none⟩ = some (.int .i64 c) from cA8 2) hm]
    rfl
  simp (maxSteps := 1000000) (disch := first | omega | (simp only [sizeAlloc, sizeDrew, sizeSet, sizePut] <;> omega) | fail) only [GS, TT_eq, TTl, Nat.reduceAdd, Nat.reduceMul, Nat.reduceSub, Nat.reduceDiv, Nat.reduceMod, Nat.reducePow, Nat.reduceEqDiff, ↓reduceIte, reduceCtorEq, Int.reduceToNat, Int.reduceAdd, Int.reduceSub, Int.reduceMul, cA8, eq_self]
  refine ⟨fok42, hBw _ _ fun w9 hM9 => .inl ⟨_, rfl, ?_⟩⟩
  first | refine ⟨(by repeat' (first | exact hag _ hM9 | apply And.intro)), hold_dops okT (rs := [.tmp 6]) rfl ?_⟩ | refine hold_dops okT (rs := [.tmp 6]) rfl ?_
  simp (maxSteps := 1000000) (disch := first | omega | (simp only [sizeAlloc, sizeDrew, sizeSet, sizePut] <;> omega) | fail) only [GS, TT_eq, TTl, Nat.reduceAdd, Nat.reduceMul, Nat.reduceSub, Nat.reduceDiv, Nat.reduceMod, Nat.reducePow, Nat.reduceEqDiff, ↓reduceIte, reduceCtorEq, Int.reduceToNat, Int.reduceAdd, Int.reduceSub, Int.reduceMul]
  refine ⟨fok43, hBr _ _ fun w10 hM10 => .inl ⟨_, rfl, ?_⟩⟩
  have hM810 := hM9.trans hM10 (by simp)
  first | refine ⟨(by repeat' (first | exact hag _ hM810 | apply And.intro)), hold_dops okT (rs := [.tmp 6]) rfl ?_⟩ | refine hold_dops okT (rs := [.tmp 6]) rfl ?_
  have hA10 := hM810.get hA8 (by simp)
  have cA10 := fun o => cellOf (o := o) hA10
  have hq1 : beq2 (txB (a, b, c)) (txB (a, b, c)) = true := by cases txB (a, b, c) <;> rfl
  simp (maxSteps := 1000000) (disch := first | omega | (simp only [sizeAlloc, sizeDrew, sizeSet, sizePut] <;> omega) | fail) only [GS, TT_eq, TTl, Nat.reduceAdd, Nat.reduceMul, Nat.reduceSub, Nat.reduceDiv, Nat.reduceMod, Nat.reducePow, Nat.reduceEqDiff, ↓reduceIte, reduceCtorEq, Int.reduceToNat, Int.reduceAdd, Int.reduceSub, Int.reduceMul, cA10, hq1]
  refine ⟨fok44, hCw _ _ (by omega) hml.dig (hml.rd.mod (hM08.trans hM810 (by simp)) (by simp)) fun w11 hM11 => .inl ⟨_, rfl, ?_⟩⟩
  have hM811 := hM810.trans hM11 (by simp)
  first | refine ⟨(by repeat' (first | exact hag _ hM811 | apply And.intro)), hold_dops okT (rs := [.tmp 6]) rfl ?_⟩ | refine hold_dops okT (rs := [.tmp 6]) rfl ?_
  simp (maxSteps := 1000000) (disch := first | omega | (simp only [sizeAlloc, sizeDrew, sizeSet, sizePut] <;> omega) | fail) only [GS, TT_eq, TTl, Nat.reduceAdd, Nat.reduceMul, Nat.reduceSub, Nat.reduceDiv, Nat.reduceMod, Nat.reducePow, Nat.reduceEqDiff, ↓reduceIte, reduceCtorEq, Int.reduceToNat, Int.reduceAdd, Int.reduceSub, Int.reduceMul]
  refine ⟨fok45, hCr _ _ (by omega) hml.dig (hml.rd.mod (hM08.trans hM811 (by simp)) (by simp)) fun w12 hM12 => .inl ⟨_, rfl, ?_⟩⟩
  have hM812 := hM811.trans hM12 (by simp)
  first | refine ⟨(by repeat' (first | exact hag _ hM812 | apply And.intro)), hold_dops okT (rs := [.tmp 6]) rfl ?_⟩ | refine hold_dops okT (rs := [.tmp 6]) rfl ?_
  have hA12 := hM812.get hA8 (by simp)
  have hM012 := hM08.trans hM812 (by simp)
  have hq2 : beq2 (mbB a l) (mbB a l) = true := by cases mbB a l <;> rfl
  clear hA8 hag cA8 hM9 hM10 hM810 hA10 cA10 hM11 hM811 hM12 hM812 hM07 hM08 hA7
  simp (maxSteps := 1000000) (disch := first | omega | (simp only [sizeAlloc, sizeDrew, sizeSet, sizePut] <;> omega) | fail) only [GS, TT_eq, TTl, Nat.reduceAdd, Nat.reduceMul, Nat.reduceSub, Nat.reduceDiv, Nat.reduceMod, Nat.reducePow, Nat.reduceEqDiff, ↓reduceIte, reduceCtorEq, Int.reduceToNat, Int.reduceAdd, Int.reduceSub, Int.reduceMul, hq2]
  refine ⟨fok46, wReadTxn_cps t ht _ _ (fun q w13 hq hM13 => .inl ⟨_, rfl, hold_ops okT (rs := [.tmp 6]) rfl ?_⟩) (fun hq w13 hM13 => .inl ⟨_, rfl, hold_ops okT (rs := [.tmp 6]) rfl ?_⟩)⟩
  · obtain ⟨xa, xb, xc⟩ := q
    unfold txV
    simp only
    simp (maxSteps := 1000000) (disch := first | omega | (simp only [sizeAlloc, sizeDrew, sizeSet, sizePut] <;> omega) | fail) only [GS, TT_eq, TTl, Nat.reduceAdd, Nat.reduceMul, Nat.reduceSub, Nat.reduceDiv, Nat.reduceMod, Nat.reducePow, Nat.reduceEqDiff, ↓reduceIte, reduceCtorEq, Int.reduceToNat, Int.reduceAdd, Int.reduceSub, Int.reduceMul]
    have hXX : (((((w13.alloc (.cells #[.int .i64 0, .int .i64 0, .int .i64 0] 24)).setCell ⟨w13.heap.size, 0, none⟩ (.int .i64 xa)).setCell ⟨w13.heap.size, 1, none⟩ (.int .i64 xb)).setCell ⟨w13.heap.size, 2, none⟩ (.int .i64 xc))).heap[w13.heap.size]? = _ := st3 (heapNew (w := w13) (o := .cells #[.int .i64 0, .int .i64 0, .int .i64 0] 24))
    have hMX : Mod [] w13 (((((w13.alloc (.cells #[.int .i64 0, .int .i64 0, .int .i64 0] 24)).setCell ⟨w13.heap.size, 0, none⟩ (.int .i64 xa)).setCell ⟨w13.heap.size, 1, none⟩ (.int .i64 xb)).setCell ⟨w13.heap.size, 2, none⟩ (.int .i64 xc))) := (((((Mod.refl [] w13).alloc (.cells #[.int .i64 0, .int .i64 0, .int .i64 0] 24)).set (p := ⟨w13.heap.size, 0, none⟩) (.inr (Nat.le_refl _)) (.int .i64 xa)).set (p := ⟨w13.heap.size, 1, none⟩) (.inr (Nat.le_refl _)) (.int .i64 xb)).set (p := ⟨w13.heap.size, 2, none⟩) (.inr (Nat.le_refl _)) (.int .i64 xc))
    revert hXX hMX
    generalize ((((w13.alloc (.cells #[.int .i64 0, .int .i64 0, .int .i64 0] 24)).setCell ⟨w13.heap.size, 0, none⟩ (.int .i64 xa)).setCell ⟨w13.heap.size, 1, none⟩ (.int .i64 xb)).setCell ⟨w13.heap.size, 2, none⟩ (.int .i64 xc)) = w14
    generalize w13.heap.size = bX
    intro hXX hMX
    refine ⟨fok47, rReadTxn12_cps t ht _ _ (fun q2 w15 hq2 hM15 => .inl ⟨_, rfl, hold_ops okT (rs := [.tmp 6]) rfl ?_⟩) (fun hq2 w15 hM15 => by rw [hq] at hq2; simp at hq2)⟩
    obtain rfl : q2 = (xa, xb, xc) := by rw [hq] at hq2; exact (Option.some.inj hq2).symm
    unfold txV
    simp only
    have hA15 := (hMX.trans hM15 (by simp)).get (hM13.get hA12 (by simp)) (by simp)
    have hn15 := (Array.getElem?_eq_some_iff.1 hA15).1
    have c15 := fun o => cellOf (o := o) hA15
    simp (maxSteps := 1000000) (disch := first | omega | (simp only [sizeAlloc, sizeDrew, sizeSet, sizePut] <;> omega) | fail) only [GS, TT_eq, TTl, Nat.reduceAdd, Nat.reduceMul, Nat.reduceSub, Nat.reduceDiv, Nat.reduceMod, Nat.reducePow, Nat.reduceEqDiff, ↓reduceIte, reduceCtorEq, Int.reduceToNat, Int.reduceAdd, Int.reduceSub, Int.reduceMul, c15]
    have hYc : (((((w15.alloc (.cells #[.int .i64 0, .int .i64 0, .int .i64 0] 24)).setCell ⟨w15.heap.size, 0, none⟩ (.int .i64 xa)).setCell ⟨w15.heap.size, 1, none⟩ (.int .i64 xb)).setCell ⟨w15.heap.size, 2, none⟩ (.int .i64 xc))).heap[w15.heap.size]? = _ := st3 (heapNew (w := w15) (o := .cells #[.int .i64 0, .int .i64 0, .int .i64 0] 24))
    have hMY : Mod [] w15 (((((w15.alloc (.cells #[.int .i64 0, .int .i64 0, .int .i64 0] 24)).setCell ⟨w15.heap.size, 0, none⟩ (.int .i64 xa)).setCell ⟨w15.heap.size, 1, none⟩ (.int .i64 xb)).setCell ⟨w15.heap.size, 2, none⟩ (.int .i64 xc))) := (((((Mod.refl [] w15).alloc (.cells #[.int .i64 0, .int .i64 0, .int .i64 0] 24)).set (p := ⟨w15.heap.size, 0, none⟩) (.inr (Nat.le_refl _)) (.int .i64 xa)).set (p := ⟨w15.heap.size, 1, none⟩) (.inr (Nat.le_refl _)) (.int .i64 xb)).set (p := ⟨w15.heap.size, 2, none⟩) (.inr (Nat.le_refl _)) (.int .i64 xc))
    revert hYc hMY
    generalize ((((w15.alloc (.cells #[.int .i64 0, .int .i64 0, .int .i64 0] 24)).setCell ⟨w15.heap.size, 0, none⟩ (.int .i64 xa)).setCell ⟨w15.heap.size, 1, none⟩ (.int .i64 xb)).setCell ⟨w15.heap.size, 2, none⟩ (.int .i64 xc)) = w16
    generalize w15.heap.size = bY
    intro hYc hMY
    have hMz := (hMX.trans hM15 (by simp)).trans hMY (by simp)
    have hXc := (hM15.trans hMY (by simp)).get hXX (by simp)
    have hAc := hMz.get (hM13.get hA12 (by simp)) (by simp)
    have hMc := (hM012.trans hM13 (by simp)).trans hMz (by simp)
    clear hMX hM15 hMY hMz hXX hA12 hM012 hM13 hA15 hn15 c15
    refine ⟨fok48, hRMw _ _ (fun q1 u1 w30 hq1 hou1 hM30 => .inl ⟨_, rfl, hold_ops okT (rs := [.tmp 6]) rfl ?_⟩) (fun hq1 w30 hM30 => .inl ⟨_, rfl, hold_ops okT (rs := [.tmp 6]) rfl ?_⟩)⟩
    · obtain ⟨aa1, cc1, rfl⟩ := (Rd.own hou1).slice
      have hAd := hM30.get hAc (by simp)
      have cAd := fun o => cellOf (o := o) hAd
      simp (maxSteps := 1000000) (disch := first | omega | (simp only [sizeAlloc, sizeDrew, sizeSet, sizePut] <;> omega) | fail) only [GS, TT_eq, TTl, Nat.reduceAdd, Nat.reduceMul, Nat.reduceSub, Nat.reduceDiv, Nat.reduceMod, Nat.reducePow, Nat.reduceEqDiff, ↓reduceIte, reduceCtorEq, Int.reduceToNat, Int.reduceAdd, Int.reduceSub, Int.reduceMul, cAd]
      refine ⟨fok49, hRMr _ _ (fun q2 u2 w31 hq2 hou2 hM31 => .inl ⟨_, rfl, hold_ops okT (rs := [.tmp 6]) rfl ?_⟩) (fun hq2 w31 hM31 => by rw [hq1] at hq2; simp at hq2)⟩
      obtain rfl : q1 = q2 := by rw [hq1] at hq2; exact Option.some.inj hq2
      obtain ⟨aa2, cc2, rfl⟩ := (Rd.own hou2).slice
      have hq6 := unmb_small hq1
      have hMe := (hMc.trans hM30 (by simp)).trans hM31 (by simp)
      have hAe := hM31.get hAd (by simp)
      have hX1 := (hM30.trans hM31 (by simp)).get hXc (by simp)
      have hY1 := (hM30.trans hM31 (by simp)).get hYc (by simp)
      have cX := fun o => cellOf (o := o) hX1
      have cY := fun o => cellOf (o := o) hY1
      simp (maxSteps := 1000000) (disch := first | omega | (simp only [sizeAlloc, sizeDrew, sizeSet, sizePut] <;> omega) | fail) only [GS, TT_eq, TTl, Nat.reduceAdd, Nat.reduceMul, Nat.reduceSub, Nat.reduceDiv, Nat.reduceMod, Nat.reducePow, Nat.reduceEqDiff, ↓reduceIte, reduceCtorEq, Int.reduceToNat, Int.reduceAdd, Int.reduceSub, Int.reduceMul, cX, cY, eq_self]
      refine ⟨fok50, SameM_cps _ _ q1 q1 _ _ (by omega) ((Rd.own hou1).mod hM31 (by simp)) (Rd.own hou2) fun w32 hM32 => .inl ⟨_, rfl, hold_ops okT (rs := [.tmp 6]) rfl ?_⟩⟩
      rw [decide_eq_true (rfl : q1 = q1)]
      have hMf := hMe.trans hM32 (by simp)
      have hAf := hM32.get hAe (by simp)
      clear hX1 hY1 cX cY hou1 hou2 hMe hAe hM31 hM30 hM32 hAd
      have cAf := fun o => cellOf (o := o) hAf
      by_cases hg : g = 0
      rotate_left
      · simp (maxSteps := 1000000) (disch := first | omega | (simp only [sizeAlloc, sizeDrew, sizeSet, sizePut] <;> omega) | fail) only [GS, TT_eq, TTl, Nat.reduceAdd, Nat.reduceMul, Nat.reduceSub, Nat.reduceDiv, Nat.reduceMod, Nat.reducePow, Nat.reduceEqDiff, ↓reduceIte, reduceCtorEq, Int.reduceToNat, Int.reduceAdd, Int.reduceSub, Int.reduceMul, hg]
        refine ⟨fok15, alive12_cps _ _ fun w40 hM40 => .inl ⟨_, rfl, hold_ops okT (rs := [.tmp 6]) rfl ?_⟩⟩
        simp (maxSteps := 1000000) (disch := first | omega | (simp only [sizeAlloc, sizeDrew, sizeSet, sizePut] <;> omega) | fail) only [GS, TT_eq, TTl, Nat.reduceAdd, Nat.reduceMul, Nat.reduceSub, Nat.reduceDiv, Nat.reduceMod, Nat.reducePow, Nat.reduceEqDiff, ↓reduceIte, reduceCtorEq, Int.reduceToNat, Int.reduceAdd, Int.reduceSub, Int.reduceMul]
        exact hR _ (hMf.trans hM40 (by simp))
      subst hg
      have hun : unmbS a mT = some l := of_unmb hPm
      have hlT : mT.length ≤ maxLen := by have := mbrs_len a l; rw [hPm] at this; unfold maxLen; simp only at this; omega
      simp (maxSteps := 1000000) (disch := first | omega | (simp only [sizeAlloc, sizeDrew, sizeSet, sizePut] <;> omega) | fail) only [GS, TT_eq, TTl, Nat.reduceAdd, Nat.reduceMul, Nat.reduceSub, Nat.reduceDiv, Nat.reduceMod, Nat.reducePow, Nat.reduceEqDiff, ↓reduceIte, reduceCtorEq, Int.reduceToNat, Int.reduceAdd, Int.reduceSub, Int.reduceMul, cAf]
      refine ⟨fok48, hRMm mT hlT _ _ (fun q3 u3 w41 hq3 hou3 hM41 => .inl ⟨_, rfl, hold_ops okT (rs := [.tmp 6]) rfl ?_⟩) (fun hq3 w41 hM41 => by rw [hun] at hq3; simp at hq3)⟩
      obtain rfl : q3 = l := by rw [hun] at hq3; exact (Option.some.inj hq3).symm
      obtain ⟨aa3, cc3, rfl⟩ := (Rd.own hou3).slice
      have hMg := hMf.trans hM41 (by simp)
      simp (maxSteps := 1000000) (disch := first | omega | (simp only [sizeAlloc, sizeDrew, sizeSet, sizePut] <;> omega) | fail) only [GS, TT_eq, TTl, Nat.reduceAdd, Nat.reduceMul, Nat.reduceSub, Nat.reduceDiv, Nat.reduceMod, Nat.reducePow, Nat.reduceEqDiff, ↓reduceIte, reduceCtorEq, Int.reduceToNat, Int.reduceAdd, Int.reduceSub, Int.reduceMul]
      refine ⟨fok50, SameM_cps _ _ q3 q3 _ _ (by omega) (Rd.own hou3) (hml.rd.mod hMg (by simp)) fun w42 hM42 => .inl ⟨_, rfl, hold_ops okT (rs := [.tmp 6]) rfl ?_⟩⟩
      rw [decide_eq_true (rfl : q3 = q3)]
      simp (maxSteps := 1000000) (disch := first | omega | (simp only [sizeAlloc, sizeDrew, sizeSet, sizePut] <;> omega) | fail) only [GS, TT_eq, TTl, Nat.reduceAdd, Nat.reduceMul, Nat.reduceSub, Nat.reduceDiv, Nat.reduceMod, Nat.reducePow, Nat.reduceEqDiff, ↓reduceIte, reduceCtorEq, Int.reduceToNat, Int.reduceAdd, Int.reduceSub, Int.reduceMul]
      refine ⟨fok15, alive12_cps _ _ fun w43 hM43 => .inl ⟨_, rfl, hold_ops okT (rs := [.tmp 6]) rfl ?_⟩⟩
      simp (maxSteps := 1000000) (disch := first | omega | (simp only [sizeAlloc, sizeDrew, sizeSet, sizePut] <;> omega) | fail) only [GS, TT_eq, TTl, Nat.reduceAdd, Nat.reduceMul, Nat.reduceSub, Nat.reduceDiv, Nat.reduceMod, Nat.reducePow, Nat.reduceEqDiff, ↓reduceIte, reduceCtorEq, Int.reduceToNat, Int.reduceAdd, Int.reduceSub, Int.reduceMul]
      exact hR _ ((hMg.trans hM42 (by simp)).trans hM43 (by simp))
    · have hAd := hM30.get hAc (by simp)
      have cAd := fun o => cellOf (o := o) hAd
      simp (maxSteps := 1000000) (disch := first | omega | (simp only [sizeAlloc, sizeDrew, sizeSet, sizePut] <;> omega) | fail) only [GS, TT_eq, TTl, Nat.reduceAdd, Nat.reduceMul, Nat.reduceSub, Nat.reduceDiv, Nat.reduceMod, Nat.reducePow, Nat.reduceEqDiff, ↓reduceIte, reduceCtorEq, Int.reduceToNat, Int.reduceAdd, Int.reduceSub, Int.reduceMul, cAd]
      refine ⟨fok49, hRMr _ _ (fun q2 u2 w31 hq2 hou2 hM31 => by rw [hq1] at hq2; simp at hq2) (fun hq2 w31 hM31 => .inl ⟨_, rfl, hold_ops okT (rs := [.tmp 6]) rfl ?_⟩)⟩
      have hMe := (hMc.trans hM30 (by simp)).trans hM31 (by simp)
      have hAe := hM31.get hAd (by simp)
      have hX1 := (hM30.trans hM31 (by simp)).get hXc (by simp)
      have hY1 := (hM30.trans hM31 (by simp)).get hYc (by simp)
      have cX := fun o => cellOf (o := o) hX1
      have cY := fun o => cellOf (o := o) hY1
      simp (maxSteps := 1000000) (disch := first | omega | (simp only [sizeAlloc, sizeDrew, sizeSet, sizePut] <;> omega) | fail) only [GS, TT_eq, TTl, Nat.reduceAdd, Nat.reduceMul, Nat.reduceSub, Nat.reduceDiv, Nat.reduceMod, Nat.reducePow, Nat.reduceEqDiff, ↓reduceIte, reduceCtorEq, Int.reduceToNat, Int.reduceAdd, Int.reduceSub, Int.reduceMul, cX, cY, eq_self]
      refine ⟨fok50, SameM_cps _ _ [] [] _ _ (by simp) (rdNil _ 0) (rdNil _ 0) fun w32 hM32 => .inl ⟨_, rfl, hold_ops okT (rs := [.tmp 6]) rfl ?_⟩⟩
      rw [decide_eq_true (rfl : ([] : List Mb) = [])]
      have hMf := hMe.trans hM32 (by simp)
      have hAf := hM32.get hAe (by simp)
      clear hX1 hY1 cX cY hMe hAe hM31 hM30 hM32 hAd
      have cAf := fun o => cellOf (o := o) hAf
      by_cases hg : g = 0
      rotate_left
      · simp (maxSteps := 1000000) (disch := first | omega | (simp only [sizeAlloc, sizeDrew, sizeSet, sizePut] <;> omega) | fail) only [GS, TT_eq, TTl, Nat.reduceAdd, Nat.reduceMul, Nat.reduceSub, Nat.reduceDiv, Nat.reduceMod, Nat.reducePow, Nat.reduceEqDiff, ↓reduceIte, reduceCtorEq, Int.reduceToNat, Int.reduceAdd, Int.reduceSub, Int.reduceMul, hg]
        refine ⟨fok15, alive12_cps _ _ fun w40 hM40 => .inl ⟨_, rfl, hold_ops okT (rs := [.tmp 6]) rfl ?_⟩⟩
        simp (maxSteps := 1000000) (disch := first | omega | (simp only [sizeAlloc, sizeDrew, sizeSet, sizePut] <;> omega) | fail) only [GS, TT_eq, TTl, Nat.reduceAdd, Nat.reduceMul, Nat.reduceSub, Nat.reduceDiv, Nat.reduceMod, Nat.reducePow, Nat.reduceEqDiff, ↓reduceIte, reduceCtorEq, Int.reduceToNat, Int.reduceAdd, Int.reduceSub, Int.reduceMul]
        exact hR _ (hMf.trans hM40 (by simp))
      subst hg
      have hun : unmbS a mT = some l := of_unmb hPm
      have hlT : mT.length ≤ maxLen := by have := mbrs_len a l; rw [hPm] at this; unfold maxLen; simp only at this; omega
      simp (maxSteps := 1000000) (disch := first | omega | (simp only [sizeAlloc, sizeDrew, sizeSet, sizePut] <;> omega) | fail) only [GS, TT_eq, TTl, Nat.reduceAdd, Nat.reduceMul, Nat.reduceSub, Nat.reduceDiv, Nat.reduceMod, Nat.reducePow, Nat.reduceEqDiff, ↓reduceIte, reduceCtorEq, Int.reduceToNat, Int.reduceAdd, Int.reduceSub, Int.reduceMul, cAf]
      refine ⟨fok48, hRMm mT hlT _ _ (fun q3 u3 w41 hq3 hou3 hM41 => .inl ⟨_, rfl, hold_ops okT (rs := [.tmp 6]) rfl ?_⟩) (fun hq3 w41 hM41 => by rw [hun] at hq3; simp at hq3)⟩
      obtain rfl : q3 = l := by rw [hun] at hq3; exact (Option.some.inj hq3).symm
      obtain ⟨aa3, cc3, rfl⟩ := (Rd.own hou3).slice
      have hMg := hMf.trans hM41 (by simp)
      simp (maxSteps := 1000000) (disch := first | omega | (simp only [sizeAlloc, sizeDrew, sizeSet, sizePut] <;> omega) | fail) only [GS, TT_eq, TTl, Nat.reduceAdd, Nat.reduceMul, Nat.reduceSub, Nat.reduceDiv, Nat.reduceMod, Nat.reducePow, Nat.reduceEqDiff, ↓reduceIte, reduceCtorEq, Int.reduceToNat, Int.reduceAdd, Int.reduceSub, Int.reduceMul]
      refine ⟨fok50, SameM_cps _ _ q3 q3 _ _ (by omega) (Rd.own hou3) (hml.rd.mod hMg (by simp)) fun w42 hM42 => .inl ⟨_, rfl, hold_ops okT (rs := [.tmp 6]) rfl ?_⟩⟩
      rw [decide_eq_true (rfl : q3 = q3)]
      simp (maxSteps := 1000000) (disch := first | omega | (simp only [sizeAlloc, sizeDrew, sizeSet, sizePut] <;> omega) | fail) only [GS, TT_eq, TTl, Nat.reduceAdd, Nat.reduceMul, Nat.reduceSub, Nat.reduceDiv, Nat.reduceMod, Nat.reducePow, Nat.reduceEqDiff, ↓reduceIte, reduceCtorEq, Int.reduceToNat, Int.reduceAdd, Int.reduceSub, Int.reduceMul]
      refine ⟨fok15, alive12_cps _ _ fun w43 hM43 => .inl ⟨_, rfl, hold_ops okT (rs := [.tmp 6]) rfl ?_⟩⟩
      simp (maxSteps := 1000000) (disch := first | omega | (simp only [sizeAlloc, sizeDrew, sizeSet, sizePut] <;> omega) | fail) only [GS, TT_eq, TTl, Nat.reduceAdd, Nat.reduceMul, Nat.reduceSub, Nat.reduceDiv, Nat.reduceMod, Nat.reducePow, Nat.reduceEqDiff, ↓reduceIte, reduceCtorEq, Int.reduceToNat, Int.reduceAdd, Int.reduceSub, Int.reduceMul]
      exact hR _ ((hMg.trans hM42 (by simp)).trans hM43 (by simp))
  · unfold txV
    simp only
    simp (maxSteps := 1000000) (disch := first | omega | (simp only [sizeAlloc, sizeDrew, sizeSet, sizePut] <;> omega) | fail) only [GS, TT_eq, TTl, Nat.reduceAdd, Nat.reduceMul, Nat.reduceSub, Nat.reduceDiv, Nat.reduceMod, Nat.reducePow, Nat.reduceEqDiff, ↓reduceIte, reduceCtorEq, Int.reduceToNat, Int.reduceAdd, Int.reduceSub, Int.reduceMul]
    have hXX : (((((w13.alloc (.cells #[.int .i64 0, .int .i64 0, .int .i64 0] 24)).setCell ⟨w13.heap.size, 0, none⟩ (.int .i64 0)).setCell ⟨w13.heap.size, 1, none⟩ (.int .i64 0)).setCell ⟨w13.heap.size, 2, none⟩ (.int .i64 0))).heap[w13.heap.size]? = _ := st3 (heapNew (w := w13) (o := .cells #[.int .i64 0, .int .i64 0, .int .i64 0] 24))
    have hMX : Mod [] w13 (((((w13.alloc (.cells #[.int .i64 0, .int .i64 0, .int .i64 0] 24)).setCell ⟨w13.heap.size, 0, none⟩ (.int .i64 0)).setCell ⟨w13.heap.size, 1, none⟩ (.int .i64 0)).setCell ⟨w13.heap.size, 2, none⟩ (.int .i64 0))) := (((((Mod.refl [] w13).alloc (.cells #[.int .i64 0, .int .i64 0, .int .i64 0] 24)).set (p := ⟨w13.heap.size, 0, none⟩) (.inr (Nat.le_refl _)) (.int .i64 0)).set (p := ⟨w13.heap.size, 1, none⟩) (.inr (Nat.le_refl _)) (.int .i64 0)).set (p := ⟨w13.heap.size, 2, none⟩) (.inr (Nat.le_refl _)) (.int .i64 0))
    revert hXX hMX
    generalize ((((w13.alloc (.cells #[.int .i64 0, .int .i64 0, .int .i64 0] 24)).setCell ⟨w13.heap.size, 0, none⟩ (.int .i64 0)).setCell ⟨w13.heap.size, 1, none⟩ (.int .i64 0)).setCell ⟨w13.heap.size, 2, none⟩ (.int .i64 0)) = w14
    generalize w13.heap.size = bX
    intro hXX hMX
    refine ⟨fok47, rReadTxn12_cps t ht _ _ (fun q2 w15 hq2 hM15 => by rw [hq] at hq2; simp at hq2) (fun hq2 w15 hM15 => .inl ⟨_, rfl, hold_ops okT (rs := [.tmp 6]) rfl ?_⟩)⟩
    unfold txV
    simp only
    have hA15 := (hMX.trans hM15 (by simp)).get (hM13.get hA12 (by simp)) (by simp)
    have hn15 := (Array.getElem?_eq_some_iff.1 hA15).1
    have c15 := fun o => cellOf (o := o) hA15
    simp (maxSteps := 1000000) (disch := first | omega | (simp only [sizeAlloc, sizeDrew, sizeSet, sizePut] <;> omega) | fail) only [GS, TT_eq, TTl, Nat.reduceAdd, Nat.reduceMul, Nat.reduceSub, Nat.reduceDiv, Nat.reduceMod, Nat.reducePow, Nat.reduceEqDiff, ↓reduceIte, reduceCtorEq, Int.reduceToNat, Int.reduceAdd, Int.reduceSub, Int.reduceMul, c15]
    have hYc : (((((w15.alloc (.cells #[.int .i64 0, .int .i64 0, .int .i64 0] 24)).setCell ⟨w15.heap.size, 0, none⟩ (.int .i64 0)).setCell ⟨w15.heap.size, 1, none⟩ (.int .i64 0)).setCell ⟨w15.heap.size, 2, none⟩ (.int .i64 0))).heap[w15.heap.size]? = _ := st3 (heapNew (w := w15) (o := .cells #[.int .i64 0, .int .i64 0, .int .i64 0] 24))
    have hMY : Mod [] w15 (((((w15.alloc (.cells #[.int .i64 0, .int .i64 0, .int .i64 0] 24)).setCell ⟨w15.heap.size, 0, none⟩ (.int .i64 0)).setCell ⟨w15.heap.size, 1, none⟩ (.int .i64 0)).setCell ⟨w15.heap.size, 2, none⟩ (.int .i64 0))) := (((((Mod.refl [] w15).alloc (.cells #[.int .i64 0, .int .i64 0, .int .i64 0] 24)).set (p := ⟨w15.heap.size, 0, none⟩) (.inr (Nat.le_refl _)) (.int .i64 0)).set (p := ⟨w15.heap.size, 1, none⟩) (.inr (Nat.le_refl _)) (.int .i64 0)).set (p := ⟨w15.heap.size, 2, none⟩) (.inr (Nat.le_refl _)) (.int .i64 0))
    revert hYc hMY
    generalize ((((w15.alloc (.cells #[.int .i64 0, .int .i64 0, .int .i64 0] 24)).setCell ⟨w15.heap.size, 0, none⟩ (.int .i64 0)).setCell ⟨w15.heap.size, 1, none⟩ (.int .i64 0)).setCell ⟨w15.heap.size, 2, none⟩ (.int .i64 0)) = w16
    generalize w15.heap.size = bY
    intro hYc hMY
    have hMz := (hMX.trans hM15 (by simp)).trans hMY (by simp)
    have hXc := (hM15.trans hMY (by simp)).get hXX (by simp)
    have hAc := hMz.get (hM13.get hA12 (by simp)) (by simp)
    have hMc := (hM012.trans hM13 (by simp)).trans hMz (by simp)
    clear hMX hM15 hMY hMz hXX hA12 hM012 hM13 hA15 hn15 c15
    refine ⟨fok48, hRMw _ _ (fun q1 u1 w30 hq1 hou1 hM30 => .inl ⟨_, rfl, hold_ops okT (rs := [.tmp 6]) rfl ?_⟩) (fun hq1 w30 hM30 => .inl ⟨_, rfl, hold_ops okT (rs := [.tmp 6]) rfl ?_⟩)⟩
    · obtain ⟨aa1, cc1, rfl⟩ := (Rd.own hou1).slice
      have hAd := hM30.get hAc (by simp)
      have cAd := fun o => cellOf (o := o) hAd
      simp (maxSteps := 1000000) (disch := first | omega | (simp only [sizeAlloc, sizeDrew, sizeSet, sizePut] <;> omega) | fail) only [GS, TT_eq, TTl, Nat.reduceAdd, Nat.reduceMul, Nat.reduceSub, Nat.reduceDiv, Nat.reduceMod, Nat.reducePow, Nat.reduceEqDiff, ↓reduceIte, reduceCtorEq, Int.reduceToNat, Int.reduceAdd, Int.reduceSub, Int.reduceMul, cAd]
      refine ⟨fok49, hRMr _ _ (fun q2 u2 w31 hq2 hou2 hM31 => .inl ⟨_, rfl, hold_ops okT (rs := [.tmp 6]) rfl ?_⟩) (fun hq2 w31 hM31 => by rw [hq1] at hq2; simp at hq2)⟩
      obtain rfl : q1 = q2 := by rw [hq1] at hq2; exact Option.some.inj hq2
      obtain ⟨aa2, cc2, rfl⟩ := (Rd.own hou2).slice
      have hq6 := unmb_small hq1
      have hMe := (hMc.trans hM30 (by simp)).trans hM31 (by simp)
      have hAe := hM31.get hAd (by simp)
      have hX1 := (hM30.trans hM31 (by simp)).get hXc (by simp)
      have hY1 := (hM30.trans hM31 (by simp)).get hYc (by simp)
      have cX := fun o => cellOf (o := o) hX1
      have cY := fun o => cellOf (o := o) hY1
      simp (maxSteps := 1000000) (disch := first | omega | (simp only [sizeAlloc, sizeDrew, sizeSet, sizePut] <;> omega) | fail) only [GS, TT_eq, TTl, Nat.reduceAdd, Nat.reduceMul, Nat.reduceSub, Nat.reduceDiv, Nat.reduceMod, Nat.reducePow, Nat.reduceEqDiff, ↓reduceIte, reduceCtorEq, Int.reduceToNat, Int.reduceAdd, Int.reduceSub, Int.reduceMul, cX, cY, eq_self]
      refine ⟨fok50, SameM_cps _ _ q1 q1 _ _ (by omega) ((Rd.own hou1).mod hM31 (by simp)) (Rd.own hou2) fun w32 hM32 => .inl ⟨_, rfl, hold_ops okT (rs := [.tmp 6]) rfl ?_⟩⟩
      rw [decide_eq_true (rfl : q1 = q1)]
      have hMf := hMe.trans hM32 (by simp)
      have hAf := hM32.get hAe (by simp)
      clear hX1 hY1 cX cY hou1 hou2 hMe hAe hM31 hM30 hM32 hAd
      have cAf := fun o => cellOf (o := o) hAf
      by_cases hg : g = 0
      rotate_left
      · simp (maxSteps := 1000000) (disch := first | omega | (simp only [sizeAlloc, sizeDrew, sizeSet, sizePut] <;> omega) | fail) only [GS, TT_eq, TTl, Nat.reduceAdd, Nat.reduceMul, Nat.reduceSub, Nat.reduceDiv, Nat.reduceMod, Nat.reducePow, Nat.reduceEqDiff, ↓reduceIte, reduceCtorEq, Int.reduceToNat, Int.reduceAdd, Int.reduceSub, Int.reduceMul, hg]
        refine ⟨fok15, alive12_cps _ _ fun w40 hM40 => .inl ⟨_, rfl, hold_ops okT (rs := [.tmp 6]) rfl ?_⟩⟩
        simp (maxSteps := 1000000) (disch := first | omega | (simp only [sizeAlloc, sizeDrew, sizeSet, sizePut] <;> omega) | fail) only [GS, TT_eq, TTl, Nat.reduceAdd, Nat.reduceMul, Nat.reduceSub, Nat.reduceDiv, Nat.reduceMod, Nat.reducePow, Nat.reduceEqDiff, ↓reduceIte, reduceCtorEq, Int.reduceToNat, Int.reduceAdd, Int.reduceSub, Int.reduceMul]
        exact hR _ (hMf.trans hM40 (by simp))
      subst hg
      have hun : unmbS a mT = some l := of_unmb hPm
      have hlT : mT.length ≤ maxLen := by have := mbrs_len a l; rw [hPm] at this; unfold maxLen; simp only at this; omega
      simp (maxSteps := 1000000) (disch := first | omega | (simp only [sizeAlloc, sizeDrew, sizeSet, sizePut] <;> omega) | fail) only [GS, TT_eq, TTl, Nat.reduceAdd, Nat.reduceMul, Nat.reduceSub, Nat.reduceDiv, Nat.reduceMod, Nat.reducePow, Nat.reduceEqDiff, ↓reduceIte, reduceCtorEq, Int.reduceToNat, Int.reduceAdd, Int.reduceSub, Int.reduceMul, cAf]
      refine ⟨fok48, hRMm mT hlT _ _ (fun q3 u3 w41 hq3 hou3 hM41 => .inl ⟨_, rfl, hold_ops okT (rs := [.tmp 6]) rfl ?_⟩) (fun hq3 w41 hM41 => by rw [hun] at hq3; simp at hq3)⟩
      obtain rfl : q3 = l := by rw [hun] at hq3; exact (Option.some.inj hq3).symm
      obtain ⟨aa3, cc3, rfl⟩ := (Rd.own hou3).slice
      have hMg := hMf.trans hM41 (by simp)
      simp (maxSteps := 1000000) (disch := first | omega | (simp only [sizeAlloc, sizeDrew, sizeSet, sizePut] <;> omega) | fail) only [GS, TT_eq, TTl, Nat.reduceAdd, Nat.reduceMul, Nat.reduceSub, Nat.reduceDiv, Nat.reduceMod, Nat.reducePow, Nat.reduceEqDiff, ↓reduceIte, reduceCtorEq, Int.reduceToNat, Int.reduceAdd, Int.reduceSub, Int.reduceMul]
      refine ⟨fok50, SameM_cps _ _ q3 q3 _ _ (by omega) (Rd.own hou3) (hml.rd.mod hMg (by simp)) fun w42 hM42 => .inl ⟨_, rfl, hold_ops okT (rs := [.tmp 6]) rfl ?_⟩⟩
      rw [decide_eq_true (rfl : q3 = q3)]
      simp (maxSteps := 1000000) (disch := first | omega | (simp only [sizeAlloc, sizeDrew, sizeSet, sizePut] <;> omega) | fail) only [GS, TT_eq, TTl, Nat.reduceAdd, Nat.reduceMul, Nat.reduceSub, Nat.reduceDiv, Nat.reduceMod, Nat.reducePow, Nat.reduceEqDiff, ↓reduceIte, reduceCtorEq, Int.reduceToNat, Int.reduceAdd, Int.reduceSub, Int.reduceMul]
      refine ⟨fok15, alive12_cps _ _ fun w43 hM43 => .inl ⟨_, rfl, hold_ops okT (rs := [.tmp 6]) rfl ?_⟩⟩
      simp (maxSteps := 1000000) (disch := first | omega | (simp only [sizeAlloc, sizeDrew, sizeSet, sizePut] <;> omega) | fail) only [GS, TT_eq, TTl, Nat.reduceAdd, Nat.reduceMul, Nat.reduceSub, Nat.reduceDiv, Nat.reduceMod, Nat.reducePow, Nat.reduceEqDiff, ↓reduceIte, reduceCtorEq, Int.reduceToNat, Int.reduceAdd, Int.reduceSub, Int.reduceMul]
      exact hR _ ((hMg.trans hM42 (by simp)).trans hM43 (by simp))
    · have hAd := hM30.get hAc (by simp)
      have cAd := fun o => cellOf (o := o) hAd
      simp (maxSteps := 1000000) (disch := first | omega | (simp only [sizeAlloc, sizeDrew, sizeSet, sizePut] <;> omega) | fail) only [GS, TT_eq, TTl, Nat.reduceAdd, Nat.reduceMul, Nat.reduceSub, Nat.reduceDiv, Nat.reduceMod, Nat.reducePow, Nat.reduceEqDiff, ↓reduceIte, reduceCtorEq, Int.reduceToNat, Int.reduceAdd, Int.reduceSub, Int.reduceMul, cAd]
      refine ⟨fok49, hRMr _ _ (fun q2 u2 w31 hq2 hou2 hM31 => by rw [hq1] at hq2; simp at hq2) (fun hq2 w31 hM31 => .inl ⟨_, rfl, hold_ops okT (rs := [.tmp 6]) rfl ?_⟩)⟩
      have hMe := (hMc.trans hM30 (by simp)).trans hM31 (by simp)
      have hAe := hM31.get hAd (by simp)
      have hX1 := (hM30.trans hM31 (by simp)).get hXc (by simp)
      have hY1 := (hM30.trans hM31 (by simp)).get hYc (by simp)
      have cX := fun o => cellOf (o := o) hX1
      have cY := fun o => cellOf (o := o) hY1
      simp (maxSteps := 1000000) (disch := first | omega | (simp only [sizeAlloc, sizeDrew, sizeSet, sizePut] <;> omega) | fail) only [GS, TT_eq, TTl, Nat.reduceAdd, Nat.reduceMul, Nat.reduceSub, Nat.reduceDiv, Nat.reduceMod, Nat.reducePow, Nat.reduceEqDiff, ↓reduceIte, reduceCtorEq, Int.reduceToNat, Int.reduceAdd, Int.reduceSub, Int.reduceMul, cX, cY, eq_self]
      refine ⟨fok50, SameM_cps _ _ [] [] _ _ (by simp) (rdNil _ 0) (rdNil _ 0) fun w32 hM32 => .inl ⟨_, rfl, hold_ops okT (rs := [.tmp 6]) rfl ?_⟩⟩
      rw [decide_eq_true (rfl : ([] : List Mb) = [])]
      have hMf := hMe.trans hM32 (by simp)
      have hAf := hM32.get hAe (by simp)
      clear hX1 hY1 cX cY hMe hAe hM31 hM30 hM32 hAd
      have cAf := fun o => cellOf (o := o) hAf
      by_cases hg : g = 0
      rotate_left
      · simp (maxSteps := 1000000) (disch := first | omega | (simp only [sizeAlloc, sizeDrew, sizeSet, sizePut] <;> omega) | fail) only [GS, TT_eq, TTl, Nat.reduceAdd, Nat.reduceMul, Nat.reduceSub, Nat.reduceDiv, Nat.reduceMod, Nat.reducePow, Nat.reduceEqDiff, ↓reduceIte, reduceCtorEq, Int.reduceToNat, Int.reduceAdd, Int.reduceSub, Int.reduceMul, hg]
        refine ⟨fok15, alive12_cps _ _ fun w40 hM40 => .inl ⟨_, rfl, hold_ops okT (rs := [.tmp 6]) rfl ?_⟩⟩
        simp (maxSteps := 1000000) (disch := first | omega | (simp only [sizeAlloc, sizeDrew, sizeSet, sizePut] <;> omega) | fail) only [GS, TT_eq, TTl, Nat.reduceAdd, Nat.reduceMul, Nat.reduceSub, Nat.reduceDiv, Nat.reduceMod, Nat.reducePow, Nat.reduceEqDiff, ↓reduceIte, reduceCtorEq, Int.reduceToNat, Int.reduceAdd, Int.reduceSub, Int.reduceMul]
        exact hR _ (hMf.trans hM40 (by simp))
      subst hg
      have hun : unmbS a mT = some l := of_unmb hPm
      have hlT : mT.length ≤ maxLen := by have := mbrs_len a l; rw [hPm] at this; unfold maxLen; simp only at this; omega
      simp (maxSteps := 1000000) (disch := first | omega | (simp only [sizeAlloc, sizeDrew, sizeSet, sizePut] <;> omega) | fail) only [GS, TT_eq, TTl, Nat.reduceAdd, Nat.reduceMul, Nat.reduceSub, Nat.reduceDiv, Nat.reduceMod, Nat.reducePow, Nat.reduceEqDiff, ↓reduceIte, reduceCtorEq, Int.reduceToNat, Int.reduceAdd, Int.reduceSub, Int.reduceMul, cAf]
      refine ⟨fok48, hRMm mT hlT _ _ (fun q3 u3 w41 hq3 hou3 hM41 => .inl ⟨_, rfl, hold_ops okT (rs := [.tmp 6]) rfl ?_⟩) (fun hq3 w41 hM41 => by rw [hun] at hq3; simp at hq3)⟩
      obtain rfl : q3 = l := by rw [hun] at hq3; exact (Option.some.inj hq3).symm
      obtain ⟨aa3, cc3, rfl⟩ := (Rd.own hou3).slice
      have hMg := hMf.trans hM41 (by simp)
      simp (maxSteps := 1000000) (disch := first | omega | (simp only [sizeAlloc, sizeDrew, sizeSet, sizePut] <;> omega) | fail) only [GS, TT_eq, TTl, Nat.reduceAdd, Nat.reduceMul, Nat.reduceSub, Nat.reduceDiv, Nat.reduceMod, Nat.reducePow, Nat.reduceEqDiff, ↓reduceIte, reduceCtorEq, Int.reduceToNat, Int.reduceAdd, Int.reduceSub, Int.reduceMul]
      refine ⟨fok50, SameM_cps _ _ q3 q3 _ _ (by omega) (Rd.own hou3) (hml.rd.mod hMg (by simp)) fun w42 hM42 => .inl ⟨_, rfl, hold_ops okT (rs := [.tmp 6]) rfl ?_⟩⟩
      rw [decide_eq_true (rfl : q3 = q3)]
      simp (maxSteps := 1000000) (disch := first | omega | (simp only [sizeAlloc, sizeDrew, sizeSet, sizePut] <;> omega) | fail) only [GS, TT_eq, TTl, Nat.reduceAdd, Nat.reduceMul, Nat.reduceSub, Nat.reduceDiv, Nat.reduceMod, Nat.reducePow, Nat.reduceEqDiff, ↓reduceIte, reduceCtorEq, Int.reduceToNat, Int.reduceAdd, Int.reduceSub, Int.reduceMul]
      refine ⟨fok15, alive12_cps _ _ fun w43 hM43 => .inl ⟨_, rfl, hold_ops okT (rs := [.tmp 6]) rfl ?_⟩⟩
      simp (maxSteps := 1000000) (disch := first | omega | (simp only [sizeAlloc, sizeDrew, sizeSet, sizePut] <;> omega) | fail) only [GS, TT_eq, TTl, Nat.reduceAdd, Nat.reduceMul, Nat.reduceSub, Nat.reduceDiv, Nat.reduceMod, Nat.reducePow, Nat.reduceEqDiff, ↓reduceIte, reduceCtorEq, Int.reduceToNat, Int.reduceAdd, Int.reduceSub, Int.reduceMul]
      exact hR _ ((hMg.trans hM42 (by simp)).trans hM43 (by simp))
end Go.Proofs.YtpcilobbohokcaaGreat
