/-
  A nonce of three numbers: suite.Nonce, and the reference's (walks).
-/
import Derived.Test.YtoladcdelaemoaaQeSgn1
set_option linter.unusedSimpArgs false
set_option linter.unusedVariables false
set_option maxRecDepth 20000
namespace Go.Proofs.Ytoladcdelaemoaa
open Go Go.Wk Go.RowKit
attribute [local irreducible] go Hold
open Go.Lib
def numOk (v : Int) : Bool := decide (0 ≤ v ∧ v ≤ 2147483647)
def nonS (l : List Int) : List UInt8 × Int := if l.all numOk = true then dataS (outF l) else ([], 2)
set_option maxHeartbeats 8000000 in
theorem sNonce_cps (a b c : Int) (ha : -9223372036854775808 ≤ a ∧ a ≤ 9223372036854775807) (hb : -9223372036854775808 ≤ b ∧ b ≤ 9223372036854775807) (hc : -9223372036854775808 ≤ c ∧ c ≤ 9223372036854775807) (w : World) (R : Ending → World → Prop)
    (hR : ∀ w', Mod [] w w' → R (.returned (stV (nonS [a, b, c]))) w') : Calls Try.prog 14 #[.int .i64 a, .int .i64 b, .int .i64 c] w R := by
  unfold nonS at hR
  refine calls_go 4000 okT Try.func14 rfl (rs := [.tmp 6, .tmp 7]) rfl Try.ntmps14 (args := [.int .i64 a, .int .i64 b, .int .i64 c]) ?_
  simp (maxSteps := 1000000) (disch := first | omega | (simp only [sizeAlloc, sizeDrew, sizeSet, sizePut] <;> omega) | fail) only [GS, TT_eq, TTl, Nat.reduceAdd, Nat.reduceMul, Nat.reduceSub, Nat.reduceDiv, Nat.reduceMod, Nat.reducePow, Nat.reduceEqDiff, ↓reduceIte, reduceCtorEq, Int.reduceToNat, Int.reduceAdd, Int.reduceSub, Int.reduceMul]
  have hrd : Rd (w.alloc (.cells #[.int .i64 a, .int .i64 b, .int .i64 c] 3)) 1 (.slice (some ⟨w.heap.size, 0, none⟩) 3 3) 3 ([a, b, c].map fun v => Value.int .i64 v) := Rd.lit (n := 3) (xs := [.int .i64 a, .int .i64 b, .int .i64 c]) rfl
  have hM0 := (Mod.refl [] w).alloc (.cells #[.int .i64 a, .int .i64 b, .int .i64 c] 3)
  have hz0 := hM0.size
  generalize w.alloc (.cells #[.int .i64 a, .int .i64 b, .int .i64 c] 3) = w0 at *
  refine hold_loop okT (rs := [.tmp 6, .tmp 7]) rfl [8, 16] [6, 7, 10, 17, 18, 19, 20, 21, 22, 23, 24, 25, 26, 27, 28, 29, 30, 31, 32, 33, 34, 35, 36, 37, 38, 39, 40] (fun vs w' => ∃ (k : Nat) (sv : Value), k ≤ 3 ∧ vs = [sv, .int .i64 k] ∧ w'.ownsRow w0.heap.size 5 1 sv (4 * k) ((outF (([a, b, c] : List Int).take k)).map byteV) ∧ w0.heap.size ≤ w'.heap.size ∧ (([a, b, c] : List Int).take k).all numOk = true ∧ Mod [] w0 w') (fun vs _ => match vs with | [_, .int _ i] => 3 - i.toNat | _ => 0) (by kernel_rfl) ⟨0, _, by omega, rfl, World.ownsRow_nil _ _ _ _, Nat.le_refl _, rfl, Mod.refl _ _⟩ ?_
  rintro vs w6 J6 ⟨k, sv, hk, rfl, hown, hb6, hall, hM6⟩
  have hM06 := hM0.trans hM6 (by simp)
  by_cases hlt : k < 3
  · obtain ⟨b1, o1, c1, e1, _, g1⟩ := (hrd.mod hM6 (by simp)).at (by omega) (by omega)
    have f1 := g1 k (.int .i64 (([a, b, c] : List Int)[k]'(by simpa using hlt))) (by rw [List.getElem?_map, List.getElem?_eq_getElem (by simpa using hlt)]; rfl)
    rw [Value.slice.injEq] at e1
    obtain ⟨e1, -, -⟩ := e1
    simp only [Option.some.injEq, Addr.mk.injEq, and_true] at e1
    obtain ⟨rfl, rfl⟩ := e1
    rw [Nat.zero_add] at f1
    have htk : (([a, b, c] : List Int).take (k + 1)) = ([a, b, c] : List Int).take k ++ [([a, b, c] : List Int)[k]'(by simpa using hlt)] := List.take_succ_eq_append_getElem (by simpa using hlt)
    have hrange : -9223372036854775808 ≤ ([a, b, c] : List Int)[k]'(by simpa using hlt) ∧ ([a, b, c] : List Int)[k]'(by simpa using hlt) ≤ 9223372036854775807 := by
      rcases k with _ | _ | _ | k
      · exact ha
      · exact hb
      · exact hc
      · omega
    have hmem : ([a, b, c] : List Int)[k]'(by simpa using hlt) ∈ ([a, b, c] : List Int) := List.getElem_mem _
    generalize ([a, b, c] : List Int)[k]'(by simpa using hlt) = v at *
    by_cases hv : 0 ≤ v ∧ v ≤ 2147483647
    rotate_left
    · have hf : ([a, b, c] : List Int).all numOk = false := by
        rw [List.all_eq_false]
        exact ⟨v, hmem, by unfold numOk; rw [decide_eq_false hv]; decide⟩
      rw [hf] at hR
      simp only [Bool.false_eq_true, if_false] at hR
      unfold stV at hR
      by_cases h0 : v < 0
      · simp (maxSteps := 1000000) (disch := first | omega | (simp only [sizeAlloc, sizeDrew, sizeSet, sizePut] <;> omega) | fail) only [GS, TT_eq, TTl, Nat.reduceAdd, Nat.reduceMul, Nat.reduceSub, Nat.reduceDiv, Nat.reduceMod, Nat.reducePow, Nat.reduceEqDiff, ↓reduceIte, reduceCtorEq, Int.reduceToNat, Int.reduceAdd, Int.reduceSub, Int.reduceMul, f1]
        exact hR _ hM06
      · simp (maxSteps := 1000000) (disch := first | omega | (simp only [sizeAlloc, sizeDrew, sizeSet, sizePut] <;> omega) | fail) only [GS, TT_eq, TTl, Nat.reduceAdd, Nat.reduceMul, Nat.reduceSub, Nat.reduceDiv, Nat.reduceMod, Nat.reducePow, Nat.reduceEqDiff, ↓reduceIte, reduceCtorEq, Int.reduceToNat, Int.reduceAdd, Int.reduceSub, Int.reduceMul, f1]
        exact hR _ hM06
    have eb : [Value.int .u8 (IntKind.u8.wrap (v.fdiv (2 ^ 24))), Value.int .u8 (IntKind.u8.wrap (v.fdiv (2 ^ 16))), Value.int .u8 (IntKind.u8.wrap (v.fdiv (2 ^ 8))), Value.int .u8 (IntKind.u8.wrap v)] = (outF [v]).map byteV := by
      simp only [outF, List.flatMap_cons, List.flatMap_nil, List.append_nil, List.map_cons, List.map_nil, byteV, byF_eq]
    have hw6 := hM6.size
    have q1 : capN .i64 24 = 24 := rfl
    have q2 : capN .i64 16 = 16 := rfl
    have q3 : capN .i64 8 = 8 := rfl
    simp (maxSteps := 1000000) (disch := first | omega | (simp only [sizeAlloc, sizeDrew, sizeSet, sizePut] <;> omega) | fail) only [GS, TT_eq, TTl, Nat.reduceAdd, Nat.reduceMul, Nat.reduceSub, Nat.reduceDiv, Nat.reduceMod, Nat.reducePow, Nat.reduceEqDiff, ↓reduceIte, reduceCtorEq, Int.reduceToNat, Int.reduceAdd, Int.reduceSub, Int.reduceMul, f1, q1, q2, q3]
    refine hold_appendN (v := sv) okT rfl rfl rfl rfl (by decide) w0.heap.size hown rfl rfl rfl (by decide) (by intro u hu; simp only [List.mem_cons, List.not_mem_nil, or_false] at hu; rcases hu with rfl | rfl | rfl | rfl <;> rfl) (by simp only; omega) (by unfold maxLen; omega) hb6 fun v' w7 hown7 hM7 _ => hold_ops okT (rs := [.tmp 6, .tmp 7]) rfl ?_
    rw [eb, ← List.map_append, ← outF_app, ← htk] at hown7
    simp (maxSteps := 1000000) (disch := first | omega | (simp only [sizeAlloc, sizeDrew, sizeSet, sizePut] <;> omega) | fail) only [GS, TT_eq, TTl, Nat.reduceAdd, Nat.reduceMul, Nat.reduceSub, Nat.reduceDiv, Nat.reduceMod, Nat.reducePow, Nat.reduceEqDiff, ↓reduceIte, reduceCtorEq, Int.reduceToNat, Int.reduceAdd, Int.reduceSub, Int.reduceMul]
    exact ⟨⟨k + 1, v', by omega, rfl, hown7, Nat.le_trans hb6 hM7.size, by rw [htk, List.all_append, hall]; simp [numOk, hv], hM6.trans hM7 (by intro y hy; exact .inr (by have := (hown.lt y (by simpa using hy)).1; omega))⟩, by omega⟩
  have ek : k = 3 := by omega
  subst ek
  have htk : (([a, b, c] : List Int).take 3) = [a, b, c] := rfl
  rw [htk] at hown hall
  rw [if_pos hall] at hR
  have ho : (outF [a, b, c]).length = 12 := by rw [outF_len]; rfl
  generalize outF [a, b, c] = o at *
  obtain ⟨A, cap, rfl, hL⟩ := row_load hown (by omega)
  rw [show 4 * 3 = 12 from rfl] at hL
  have hbL : bytesL (o.map byteV) = some o := bytesL_map o
  simp (maxSteps := 1000000) (disch := first | omega | (simp only [sizeAlloc, sizeDrew, sizeSet, sizePut] <;> omega) | fail) only [GS, TT_eq, TTl, Nat.reduceAdd, Nat.reduceMul, Nat.reduceSub, Nat.reduceDiv, Nat.reduceMod, Nat.reducePow, Nat.reduceEqDiff, ↓reduceIte, reduceCtorEq, Int.reduceToNat, Int.reduceAdd, Int.reduceSub, Int.reduceMul, ↓hL, hbL]
  refine ⟨fok30, tData_cps o (by unfold maxLen; omega) _ _ fun w7 hM7 => .inl ⟨_, rfl, hold_ops okT (rs := [.tmp 6, .tmp 7]) rfl ?_⟩⟩
  unfold stV at hR ⊢
  simp (maxSteps := 1000000) (disch := first | omega | (simp only [sizeAlloc, sizeDrew, sizeSet, sizePut] <;> omega) | fail) only [GS, TT_eq, TTl, Nat.reduceAdd, Nat.reduceMul, Nat.reduceSub, Nat.reduceDiv, Nat.reduceMod, Nat.reducePow, Nat.reduceEqDiff, ↓reduceIte, reduceCtorEq, Int.reduceToNat, Int.reduceAdd, Int.reduceSub, Int.reduceMul]
  exact hR _ (hM06.trans hM7 (by simp))
end Go.Proofs.Ytoladcdelaemoaa
