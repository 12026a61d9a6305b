/-
  A suite of terms: may, Mac, Same (walks).
-/
import Derived.Test.YthnlmmkhehphiaaGreatDoorEaSui1
set_option linter.unusedSimpArgs false
set_option linter.unusedVariables false
set_option maxRecDepth 20000
namespace Go.Proofs.YthnlmmkhehphiaaGreatDoor
open Go Go.Wk Go.RowKit
attribute [local irreducible] go Hold
open Go.Lib
set_option maxRecDepth 20000 in
set_option maxHeartbeats 4000000 in
theorem sMay_cps (s : Nat) (sa : Value) (xs : List (List UInt8)) (hx : xs.length ≤ 1000000) (hz : ∀ t ∈ xs, t.length ≤ maxLen) (w : World) (ha : Rd w 1 sa xs.length (xs.map strV)) (R : Ending → World → Prop) (hR : ∀ w', Mod [] w w' → R (.returned (.int .i64 (if allS xs = true then 0 else 2))) w') :
    Calls Tryz.prog 89 #[.pointer (some ⟨s, 0, none⟩), sa] w R := by
  obtain ⟨pa, ca, rfl⟩ := ha.slice
  refine calls_go 4000 okT Tryz.func89 rfl (rs := [.tmp 4]) rfl Tryz.ntmps89 (args := [.pointer (some ⟨s, 0, none⟩), .slice pa xs.length ca]) ?_
  simp (maxSteps := 1000000) (disch := first | omega | (simp only [sizeAlloc, sizeDrew, sizeSet, sizePut] <;> omega) | fail) only [GS, TT_eq, TTl, Nat.reduceAdd, Nat.reduceMul, Nat.reduceSub, Nat.reduceDiv, Nat.reduceMod, Nat.reducePow, Nat.reduceEqDiff, ↓reduceIte, reduceCtorEq, Int.reduceToNat, Int.reduceAdd, Int.reduceSub, Int.reduceMul]
  refine hold_loop okT (rs := [.tmp 4]) rfl [11] [4, 6, 12, 13, 14, 15, 16, 17, 18] (fun vs w' => ∃ k : Nat, k ≤ xs.length ∧ vs = [.int .i64 k] ∧ Mod [] w w' ∧ ∀ t ∈ xs.take k, checkS t = 0) (fun vs _ => match vs with | [.int _ i] => xs.length - i.toNat | _ => 0) (by kernel_rfl) ⟨0, by omega, rfl, Mod.refl _ _, by simp⟩ ?_
  rintro vs w1 J ⟨k, hk, rfl, hM, hn⟩
  by_cases hlt : k < xs.length
  · obtain ⟨b1, o1, c1, e1, _, g1⟩ := (ha.mod hM (by simp)).at (by omega) (by omega)
    have f1 : w1.cell? ⟨b1, o1 + k, none⟩ = some (.string ⟨(xs[k]).toArray⟩) := g1 k _ (getS hlt)
    rw [Value.slice.injEq] at e1
    obtain ⟨rfl, -, -⟩ := e1
    have htk := List.take_succ_eq_append_getElem hlt
    have hmem := List.getElem_mem hlt
    generalize xs[k] = t at f1 htk hmem
    simp (maxSteps := 1000000) (disch := first | omega | (simp only [sizeAlloc, sizeDrew, sizeSet, sizePut] <;> omega) | fail) only [GS, TT_eq, TTl, Nat.reduceAdd, Nat.reduceMul, Nat.reduceSub, Nat.reduceDiv, Nat.reduceMod, Nat.reducePow, Nat.reduceEqDiff, ↓reduceIte, reduceCtorEq, Int.reduceToNat, Int.reduceAdd, Int.reduceSub, Int.reduceMul, f1]
    refine ⟨fok62, tCheck_cps t (hz t hmem) _ _ fun w2 hM2 => .inl ⟨_, rfl, hold_ops okT (rs := [.tmp 4]) rfl ?_⟩⟩
    by_cases hc : checkS t = 0
    · simp (maxSteps := 1000000) (disch := first | omega | (simp only [sizeAlloc, sizeDrew, sizeSet, sizePut] <;> omega) | fail) only [GS, TT_eq, TTl, Nat.reduceAdd, Nat.reduceMul, Nat.reduceSub, Nat.reduceDiv, Nat.reduceMod, Nat.reducePow, Nat.reduceEqDiff, ↓reduceIte, reduceCtorEq, Int.reduceToNat, Int.reduceAdd, Int.reduceSub, Int.reduceMul, (decide_eq_true hc)]
      refine ⟨⟨k + 1, by omega, rfl, hM.trans hM2 (by simp), ?_⟩, by omega⟩
      rw [htk]
      intro u hu
      rcases List.mem_append.1 hu with hu | hu
      · exact hn u hu
      · rw [List.mem_singleton.1 hu]; exact hc
    · have hf : allS xs = false := by
        unfold allS
        rw [List.all_eq_false]
        exact ⟨t, hmem, by simpa using hc⟩
      rw [hf] at hR
      simp only [Bool.false_eq_true, if_false] at hR
      simp (maxSteps := 1000000) (disch := first | omega | (simp only [sizeAlloc, sizeDrew, sizeSet, sizePut] <;> omega) | fail) only [GS, TT_eq, TTl, Nat.reduceAdd, Nat.reduceMul, Nat.reduceSub, Nat.reduceDiv, Nat.reduceMod, Nat.reducePow, Nat.reduceEqDiff, ↓reduceIte, reduceCtorEq, Int.reduceToNat, Int.reduceAdd, Int.reduceSub, Int.reduceMul, hc]
      exact hR _ (hM.trans hM2 (by simp))
  · have e : k = xs.length := by omega
    subst e
    rw [List.take_length] at hn
    have ht : allS xs = true := by unfold allS; rw [List.all_eq_true]; intro u hu; simp [hn u hu]
    rw [ht] at hR
    simp only [if_true] at hR
    simp (maxSteps := 1000000) (disch := first | omega | (simp only [sizeAlloc, sizeDrew, sizeSet, sizePut] <;> omega) | fail) only [GS, TT_eq, TTl, Nat.reduceAdd, Nat.reduceMul, Nat.reduceSub, Nat.reduceDiv, Nat.reduceMod, Nat.reducePow, Nat.reduceEqDiff, ↓reduceIte, reduceCtorEq, Int.reduceToNat, Int.reduceAdd, Int.reduceSub, Int.reduceMul]
    exact hR _ hM
theorem mMac (w : World) : (method (Tryz.prog.types.size + Made.depth) 71 (.agg #[]) "chirograph/suite.mac").run Tryz.prog w = .ok (183, .agg #[]) w := by kernel_rfl
set_option maxRecDepth 20000 in
set_option maxHeartbeats 4000000 in
theorem sMacT_cps (x y : List UInt8) (hx : x.length ≤ 1000000) (hy : y.length ≤ 1000000) (w : World) (R : Ending → World → Prop) (hR : ∀ w', Mod [] w w' → R (.returned (stV (madeS [109] [x, y]))) w') :
    Calls Tryz.prog 183 #[.agg #[], .string ⟨x.toArray⟩, .string ⟨y.toArray⟩] w R := by
  refine calls_go 4000 okT Tryz.func183 rfl (rs := [.tmp 6, .tmp 7]) rfl Tryz.ntmps183 (args := [.agg #[], .string ⟨x.toArray⟩, .string ⟨y.toArray⟩]) ?_
  simp (maxSteps := 1000000) (disch := first | omega | (simp only [sizeAlloc, sizeDrew, sizeSet, sizePut] <;> omega) | fail) only [GS, TT_eq, TTl, Nat.reduceAdd, Nat.reduceMul, Nat.reduceSub, Nat.reduceDiv, Nat.reduceMod, Nat.reducePow, Nat.reduceEqDiff, ↓reduceIte, reduceCtorEq, Int.reduceToNat, Int.reduceAdd, Int.reduceSub, Int.reduceMul]
  generalize hW : w.alloc (.cells #[] 71) = w1
  have hM0 : Mod [] w w1 := by subst hW; exact (Mod.refl [] w).alloc _
  clear hW
  refine ⟨fok185, tMac_cps x y hx hy _ _ fun w2 hM2 => .inl ⟨_, rfl, hold_ops okT (rs := [.tmp 6, .tmp 7]) rfl ?_⟩⟩
  have hM02 := hM0.trans hM2 (by simp)
  unfold stV at hR ⊢
  simp (maxSteps := 1000000) (disch := first | omega | (simp only [sizeAlloc, sizeDrew, sizeSet, sizePut] <;> omega) | fail) only [GS, TT_eq, TTl, Nat.reduceAdd, Nat.reduceMul, Nat.reduceSub, Nat.reduceDiv, Nat.reduceMod, Nat.reducePow, Nat.reduceEqDiff, ↓reduceIte, reduceCtorEq, Int.reduceToNat, Int.reduceAdd, Int.reduceSub, Int.reduceMul]
  exact hR _ hM02
set_option maxRecDepth 20000 in
set_option maxHeartbeats 4000000 in
theorem sMac_cps (s : Nat) (x y : List UInt8) (hx : x.length ≤ 1000000) (hy : y.length ≤ 1000000) (w : World) (h : isSui w s) (R : Ending → World → Prop) (hR : ∀ w', Mod [] w w' → R (.returned (stV (madeS [109] [x, y]))) w') :
    Calls Tryz.prog 42 #[.pointer (some ⟨s, 0, none⟩), .string ⟨x.toArray⟩, .string ⟨y.toArray⟩] w R := by
  refine calls_go 4000 okT Tryz.func42 rfl (rs := [.tmp 6, .tmp 7]) rfl Tryz.ntmps42 (args := [.pointer (some ⟨s, 0, none⟩), .string ⟨x.toArray⟩, .string ⟨y.toArray⟩]) ?_
  simp (maxSteps := 1000000) (disch := first | omega | (simp only [sizeAlloc, sizeDrew, sizeSet, sizePut] <;> omega) | fail) only [GS, TT_eq, TTl, Nat.reduceAdd, Nat.reduceMul, Nat.reduceSub, Nat.reduceDiv, Nat.reduceMod, Nat.reducePow, Nat.reduceEqDiff, ↓reduceIte, reduceCtorEq, Int.reduceToNat, Int.reduceAdd, Int.reduceSub, Int.reduceMul]
  have hrd : Rd (w.alloc (.cells #[.string ⟨x.toArray⟩, .string ⟨y.toArray⟩] 9)) 1 (.slice (some ⟨w.heap.size, 0, none⟩) 2 2) 2 ([x, y].map strV) := Rd.lit (n := 2) (xs := [.string ⟨x.toArray⟩, .string ⟨y.toArray⟩]) rfl
  have hM0 := (Mod.refl [] w).alloc (.cells #[.string ⟨x.toArray⟩, .string ⟨y.toArray⟩] 9)
  have h1 := h.mod hM0
  generalize w.alloc (.cells #[.string ⟨x.toArray⟩, .string ⟨y.toArray⟩] 9) = w1 at hrd hM0 h1 ⊢
  refine ⟨fok89, sMay_cps s _ [x, y] (by simp) (fun t ht => by simp only [List.mem_cons, List.not_mem_nil, or_false] at ht; unfold maxLen; rcases ht with rfl | rfl <;> omega) _ hrd _ fun w2 hM2 => .inl ⟨_, rfl, hold_ops okT (rs := [.tmp 6, .tmp 7]) rfl ?_⟩⟩
  have hM02 := hM0.trans hM2 (by simp)
  have c := fun o => cellOf (o := o) (h1.mod hM2)
  by_cases hal : allS [x, y] = true
  · rw [if_pos hal]
    simp (maxSteps := 1000000) (disch := first | omega | (simp only [sizeAlloc, sizeDrew, sizeSet, sizePut] <;> omega) | fail) only [GS, TT_eq, TTl, Nat.reduceAdd, Nat.reduceMul, Nat.reduceSub, Nat.reduceDiv, Nat.reduceMod, Nat.reducePow, Nat.reduceEqDiff, ↓reduceIte, reduceCtorEq, Int.reduceToNat, Int.reduceAdd, Int.reduceSub, Int.reduceMul, c]
    refine hold_invoke rfl rfl (mMac _) fok183 (sMacT_cps x y hx hy _ _ fun w3 hM3 => .inl ⟨_, rfl, hold_ops okT (rs := [.tmp 6, .tmp 7]) rfl ?_⟩)
    unfold stV at hR ⊢
    simp (maxSteps := 1000000) (disch := first | omega | (simp only [sizeAlloc, sizeDrew, sizeSet, sizePut] <;> omega) | fail) only [GS, TT_eq, TTl, Nat.reduceAdd, Nat.reduceMul, Nat.reduceSub, Nat.reduceDiv, Nat.reduceMod, Nat.reducePow, Nat.reduceEqDiff, ↓reduceIte, reduceCtorEq, Int.reduceToNat, Int.reduceAdd, Int.reduceSub, Int.reduceMul]
    exact hR _ (hM02.trans hM3 (by simp))
  · rw [if_neg hal]
    have hm : madeS [109] [x, y] = ([], 2) := by unfold madeS; rw [if_neg hal]
    rw [hm] at hR
    unfold stV at hR
    simp (maxSteps := 1000000) (disch := first | omega | (simp only [sizeAlloc, sizeDrew, sizeSet, sizePut] <;> omega) | fail) only [GS, TT_eq, TTl, Nat.reduceAdd, Nat.reduceMul, Nat.reduceSub, Nat.reduceDiv, Nat.reduceMod, Nat.reducePow, Nat.reduceEqDiff, ↓reduceIte, reduceCtorEq, Int.reduceToNat, Int.reduceAdd, Int.reduceSub, Int.reduceMul]
    exact hR _ hM02
set_option maxRecDepth 20000 in
set_option maxHeartbeats 4000000 in
theorem sSame_cps (s : Nat) (a b : List UInt8) (ha : a.length ≤ maxLen) (w : World) (R : Ending → World → Prop) (hR : ∀ w', Mod [] w w' → R (.returned (.bool (decide (a = b)))) w') :
    Calls Tryz.prog 45 #[.pointer (some ⟨s, 0, none⟩), .string ⟨a.toArray⟩, .string ⟨b.toArray⟩] w R := by
  refine calls_go 4000 okT Tryz.func45 rfl (rs := [.tmp 6]) rfl Tryz.ntmps45 (args := [.pointer (some ⟨s, 0, none⟩), .string ⟨a.toArray⟩, .string ⟨b.toArray⟩]) ?_
  simp (maxSteps := 1000000) (disch := first | omega | (simp only [sizeAlloc, sizeDrew, sizeSet, sizePut] <;> omega) | fail) only [GS, TT_eq, TTl, Nat.reduceAdd, Nat.reduceMul, Nat.reduceSub, Nat.reduceDiv, Nat.reduceMod, Nat.reducePow, Nat.reduceEqDiff, ↓reduceIte, reduceCtorEq, Int.reduceToNat, Int.reduceAdd, Int.reduceSub, Int.reduceMul]
  refine ⟨fok95, hSame_cps a b ha _ _ fun w2 hM2 => .inl ⟨_, rfl, hold_ops okT (rs := [.tmp 6]) rfl ?_⟩⟩
  simp (maxSteps := 1000000) (disch := first | omega | (simp only [sizeAlloc, sizeDrew, sizeSet, sizePut] <;> omega) | fail) only [GS, TT_eq, TTl, Nat.reduceAdd, Nat.reduceMul, Nat.reduceSub, Nat.reduceDiv, Nat.reduceMod, Nat.reducePow, Nat.reduceEqDiff, ↓reduceIte, reduceCtorEq, Int.reduceToNat, Int.reduceAdd, Int.reduceSub, Int.reduceMul]
  exact hR _ hM2
end Go.Proofs.YthnlmmkhehphiaaGreatDoor
