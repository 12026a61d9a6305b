/-
  A suite of terms: may, Mac, Same (walks).
-/
import Derived.Test.YtoladcdelaemoaaQeSui1
set_option linter.unusedSimpArgs false
set_option linter.unusedVariables false
set_option maxRecDepth 20000
namespace Go.Proofs.Ytoladcdelaemoaa
open Go Go.Wk Go.RowKit
attribute [local irreducible] go Hold
open Go.Lib
set_option maxRecDepth 20000 in
set_option maxHeartbeats 4000000 in
theorem sMay_cps (s : Nat) (sa : Value) (xs : List (List UInt8)) (hx : xs.length ≤ 1000000) (hz : ∀ t ∈ xs, t.length ≤ maxLen) (w : World) (ha : Rd w 1 sa xs.length (xs.map strV)) (R : Ending → World → Prop) (hR : ∀ w', Mod [] w w' → R (.returned (.int .i64 (if allS xs = true then 0 else 2))) w') :
    Calls Try.prog 45 #[.pointer (some ⟨s, 0, none⟩), sa] w R := by
  obtain ⟨pa, ca, rfl⟩ := ha.slice
  refine calls_go 4000 okT Try.func45 rfl (rs := [.tmp 4]) rfl Try.ntmps45 (args := [.pointer (some ⟨s, 0, none⟩), .slice pa xs.length ca]) ?_
  simp (maxSteps := 1000000) (disch := first | omega | (simp only [sizeAlloc, sizeDrew, sizeSet, sizePut] <;> omega) | fail) only [GS, TT_eq, TTl, Nat.reduceAdd, Nat.reduceMul, Nat.reduceSub, Nat.reduceDiv, Nat.reduceMod, Nat.reducePow, Nat.reduceEqDiff, ↓reduceIte, reduceCtorEq, Int.reduceToNat, Int.reduceAdd, Int.reduceSub, Int.reduceMul]
  refine hold_loop okT (rs := [.tmp 4]) rfl [11] [4, 6, 12, 13, 14, 15, 16, 17, 18] (fun vs w' => ∃ k : Nat, k ≤ xs.length ∧ vs = [.int .i64 k] ∧ Mod [] w w' ∧ ∀ t ∈ xs.take k, checkS t = 0) (fun vs _ => match vs with | [.int _ i] => xs.length - i.toNat | _ => 0) (by kernel_rfl) ⟨0, by omega, rfl, Mod.refl _ _, by simp⟩ ?_
  rintro vs w1 J ⟨k, hk, rfl, hM, hn⟩
  by_cases hlt : k < xs.length
  · obtain ⟨b1, o1, c1, e1, _, g1⟩ := (ha.mod hM (by simp)).at (by omega) (by omega)
    have f1 : w1.cell? ⟨b1, o1 + k, none⟩ = some (.string ⟨(xs[k]).toArray⟩) := g1 k _ (getS hlt)
    rw [Value.slice.injEq] at e1
    obtain ⟨rfl, -, -⟩ := e1
    have htk := List.take_succ_eq_append_getElem hlt
    have hmem := List.getElem_mem hlt
    generalize xs[k] = t at f1 htk hmem
    simp (maxSteps := 1000000) (disch := first | omega | (simp only [sizeAlloc, sizeDrew, sizeSet, sizePut] <;> omega) | fail) only [GS, TT_eq, TTl, Nat.reduceAdd, Nat.reduceMul, Nat.reduceSub, Nat.reduceDiv, Nat.reduceMod, Nat.reducePow, Nat.reduceEqDiff, ↓reduceIte, reduceCtorEq, Int.reduceToNat, Int.reduceAdd, Int.reduceSub, Int.reduceMul, f1]
    refine ⟨fok25, tCheck_cps t (hz t hmem) _ _ fun w2 hM2 => .inl ⟨_, rfl, hold_ops okT (rs := [.tmp 4]) rfl ?_⟩⟩
    by_cases hc : checkS t = 0
    · simp (maxSteps := 1000000) (disch := first | omega | (simp only [sizeAlloc, sizeDrew, sizeSet, sizePut] <;> omega) | fail) only [GS, TT_eq, TTl, Nat.reduceAdd, Nat.reduceMul, Nat.reduceSub, Nat.reduceDiv, Nat.reduceMod, Nat.reducePow, Nat.reduceEqDiff, ↓reduceIte, reduceCtorEq, Int.reduceToNat, Int.reduceAdd, Int.reduceSub, Int.reduceMul, (decide_eq_true hc)]
      refine ⟨⟨k + 1, by omega, rfl, hM.trans hM2 (by simp), ?_⟩, by omega⟩
      rw [htk]
      intro u hu
      rcases List.mem_append.1 hu with hu | hu
      · exact hn u hu
      · rw [List.mem_singleton.1 hu]; exact hc
    · have hf : allS xs = false := by
        unfold allS
        rw [List.all_eq_false]
        exact ⟨t, hmem, by simpa using hc⟩
      rw [hf] at hR
      simp only [Bool.false_eq_true, if_false] at hR
      simp (maxSteps := 1000000) (disch := first | omega | (simp only [sizeAlloc, sizeDrew, sizeSet, sizePut] <;> omega) | fail) only [GS, TT_eq, TTl, Nat.reduceAdd, Nat.reduceMul, Nat.reduceSub, Nat.reduceDiv, Nat.reduceMod, Nat.reducePow, Nat.reduceEqDiff, ↓reduceIte, reduceCtorEq, Int.reduceToNat, Int.reduceAdd, Int.reduceSub, Int.reduceMul, hc]
      exact hR _ (hM.trans hM2 (by simp))
  · have e : k = xs.length := by omega
    subst e
    rw [List.take_length] at hn
    have ht : allS xs = true := by unfold allS; rw [List.all_eq_true]; intro u hu; simp [hn u hu]
    rw [ht] at hR
    simp only [if_true] at hR
    simp (maxSteps := 1000000) (disch := first | omega | (simp only [sizeAlloc, sizeDrew, sizeSet, sizePut] <;> omega) | fail) only [GS, TT_eq, TTl, Nat.reduceAdd, Nat.reduceMul, Nat.reduceSub, Nat.reduceDiv, Nat.reduceMod, Nat.reducePow, Nat.reduceEqDiff, ↓reduceIte, reduceCtorEq, Int.reduceToNat, Int.reduceAdd, Int.reduceSub, Int.reduceMul]
    exact hR _ hM
theorem mMac (w : World) : (method (Try.prog.types.size + Made.depth) 72 (.agg #[]) "chirograph/suite.mac").run Try.prog w = .ok (120, .agg #[]) w := by kernel_rfl
set_option maxRecDepth 20000 in
set_option maxHeartbeats 4000000 in
theorem sMacT_cps (x y : List UInt8) (hx : x.length ≤ 1000000) (hy : y.length ≤ 1000000) (w : World) (R : Ending → World → Prop) (hR : ∀ w', Mod [] w w' → R (.returned (stV (madeS [109] [x, y]))) w') :
    Calls Try.prog 120 #[.agg #[], .string ⟨x.toArray⟩, .string ⟨y.toArray⟩] w R := by
  refine calls_go 4000 okT Try.func120 rfl (rs := [.tmp 6, .tmp 7]) rfl Try.ntmps120 (args := [.agg #[], .string ⟨x.toArray⟩, .string ⟨y.toArray⟩]) ?_
  simp (maxSteps := 1000000) (disch := first | omega | (simp only [sizeAlloc, sizeDrew, sizeSet, sizePut] <;> omega) | fail) only [GS, TT_eq, TTl, Nat.reduceAdd, Nat.reduceMul, Nat.reduceSub, Nat.reduceDiv, Nat.reduceMod, Nat.reducePow, Nat.reduceEqDiff, ↓reduceIte, reduceCtorEq, Int.reduceToNat, Int.reduceAdd, Int.reduceSub, Int.reduceMul]
  generalize hW : w.alloc (.cells #[] 72) = w1
  have hM0 : Mod [] w w1 := by subst hW; exact (Mod.refl [] w).alloc _
  clear hW
  refine ⟨fok101, tMac_cps x y hx hy _ _ fun w2 hM2 => .inl ⟨_, rfl, hold_ops okT (rs := [.tmp 6, .tmp 7]) rfl ?_⟩⟩
  have hM02 := hM0.trans hM2 (by simp)
  unfold stV at hR ⊢
  simp (maxSteps := 1000000) (disch := first | omega | (simp only [sizeAlloc, sizeDrew, sizeSet, sizePut] <;> omega) | fail) only [GS, TT_eq, TTl, Nat.reduceAdd, Nat.reduceMul, Nat.reduceSub, Nat.reduceDiv, Nat.reduceMod, Nat.reducePow, Nat.reduceEqDiff, ↓reduceIte, reduceCtorEq, Int.reduceToNat, Int.reduceAdd, Int.reduceSub, Int.reduceMul]
  exact hR _ hM02
end Go.Proofs.Ytoladcdelaemoaa
