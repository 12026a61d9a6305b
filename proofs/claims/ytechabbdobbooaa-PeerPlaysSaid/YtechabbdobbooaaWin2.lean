/-
  The window's functions: Take.
-/
import Derived.Test.YtechabbdobbooaaWin1
import Derived.BigRegion
import Derived.Lib.Hide
set_option linter.unusedSimpArgs false
set_option linter.unusedVariables false
namespace Go.Proofs.Ytechabbdobbooaa
open Go Go.Wk Go.RowKit
attribute [local irreducible] go Hold
def isWin (w : World) (b : Nat) (t : Int) (v : Nat) : Prop := w.heap[b]? = some (.cells #[.int .i64 t, .int .u64 v] 59 (0, 0))
theorem isWin.c0 {w : World} {b : Nat} {t : Int} {v : Nat} (h : isWin w b t v) : w.cell? ⟨b, 0, none⟩ = some (.int .i64 t) := cellOf h
theorem isWin.c1 {w : World} {b : Nat} {t : Int} {v : Nat} (h : isWin w b t v) : w.cell? ⟨b, 1, none⟩ = some (.int .u64 v) := cellOf h
theorem isWin.fr {w : World} {b o : Nat} {t : Int} {v : Nat} (h : isWin w b t v) : w.frozen? ⟨b, o, none⟩ = false := frozenOf h
set_option maxRecDepth 20000 in
theorem Take_fail (b : Nat) (n t : Int) (v : Nat) (w : World) (R : Ending → World → Prop) (ht : 0 ≤ t) (ht2 : t ≤ 65535) (hv : v < 18446744073709551616)
    (hc : w.cell? ⟨b, 0, none⟩ = some (.int .i64 t)) (hw : w.cell? ⟨b, 1, none⟩ = some (.int .u64 v)) (hn : mayC t v n ≠ 0)
    (hR : ∀ m, R (.returned (.int .i64 (mayC t v n))) (w.drewN m)) :
    Calls Try.prog 10 #[.pointer (some ⟨b, 0, none⟩), .int .i64 n] w R := by
  refine calls_go 4000 okT Try.func10 rfl (rs := [.tmp 4]) rfl Try.ntmps10 (args := [.pointer (some ⟨b, 0, none⟩), .int .i64 n]) ?_
  simp (config := { maxSteps := 1000000 }) (disch := first | omega | (simp only [sizeAlloc, sizeDrew, sizeSet, sizePut]; omega) | fail) only [GS1, GS2, GS3, GS4, GS5, GS6, GS7, GS8, GS9, GS10, TT_eq, TTl, Nat.reduceAdd, Nat.reduceMul, Nat.reduceSub, Nat.reduceDiv, Nat.reduceMod, Nat.reducePow, Nat.reduceEqDiff, ↓reduceIte, reduceCtorEq, true_and, and_true, and_self, false_and, and_false, Int.reduceToNat, Int.reduceAdd, Int.reduceSub, Int.reduceMul, cond_true, cond_false, List.toList_toArray, Option.map_some, Option.map_none, Option.some.injEq, List.cons_append, List.nil_append, List.nil_append, List.append_nil]
  refine ⟨fok28, May_cps b n t v w _ ht ht2 hv hc hw fun m => .inl ⟨_, rfl, ?_⟩⟩
  refine hold_ops okT (rs := [.tmp 4]) rfl ?_
  simp (config := { maxSteps := 1000000 }) (disch := first | omega | (simp only [sizeAlloc, sizeDrew, sizeSet, sizePut]; omega) | fail) only [GS1, GS2, GS3, GS4, GS5, GS6, GS7, GS8, GS9, GS10, TT_eq, TTl, Nat.reduceAdd, Nat.reduceMul, Nat.reduceSub, Nat.reduceDiv, Nat.reduceMod, Nat.reducePow, Nat.reduceEqDiff, ↓reduceIte, reduceCtorEq, true_and, and_true, and_self, false_and, and_false, Int.reduceToNat, Int.reduceAdd, Int.reduceSub, Int.reduceMul, cond_true, cond_false, List.toList_toArray, Option.map_some, Option.map_none, Option.some.injEq, List.cons_append, List.nil_append, hn, decide_false]
  exact hR m
def takeV (t : Int) (v : Nat) (n : Int) : Nat := if t < n then (v <<< (n - t).toNat) % 18446744073709551616 ||| 1 else v ||| (1 <<< (t - n).toNat)
theorem shl_old (k : Nat) (hk : k < 64) : IntKind.u64.wrap (1 * 2 ^ capN .u64 ((k : Int)).toNat) = ((1 <<< k : Nat) : Int) := by
  have h1 : capN .u64 ((k : Int)).toNat = k := by simp [capN, IntKind.bits]; omega
  rw [h1, IntKind.wrap_u64, Nat.one_shiftLeft]
  have h2 : (1 : Int) * 2 ^ k = ((2 ^ k : Nat) : Int) := by simp
  rw [h2]
  have h3 : 2 ^ k < 2 ^ 64 := Nat.pow_lt_pow_right (by omega) hk
  have h4 : (2 : Nat) ^ 64 = 18446744073709551616 := by decide
  rw [h4] at h3
  generalize 2 ^ k = y at h3 ⊢
  omega
theorem shl_new (v k : Nat) (hv : v < 18446744073709551616) : IntKind.u64.wrap ((v : Int) * 2 ^ capN .u64 ((k : Int)).toNat) = ((v <<< k % 18446744073709551616 : Nat) : Int) := by
  rw [IntKind.wrap_u64, Nat.shiftLeft_eq]
  have h0 : ((k : Int)).toNat = k := by omega
  rw [h0]
  unfold capN
  simp only [IntKind.bits]
  by_cases hk : k ≤ 64
  · rw [Nat.min_eq_left hk]
    have : ((2 : Int) ^ k) = ((2 ^ k : Nat) : Int) := by simp
    rw [this]; rfl
  · rw [Nat.min_eq_right (by omega)]
    have e : 2 ^ k = 18446744073709551616 * 2 ^ (k - 64) := by
      have : (18446744073709551616 : Nat) = 2 ^ 64 := by decide
      rw [this, ← Nat.pow_add]; congr 1; omega
    have h1 : v * 2 ^ k % 18446744073709551616 = 0 := by rw [e, Nat.mul_left_comm]; exact Nat.mul_mod_right _ _
    rw [h1]
    have h2 : ((2 : Int) ^ 64) = 18446744073709551616 := by decide
    rw [h2]; omega
theorem World.drewN_set {w : World} {a : Addr} {v : Value} {n : Nat} : (w.drewN n).setCell a v = (w.setCell a v).drewN n := rfl
set_option maxRecDepth 20000 in
theorem Take_old (b : Nat) (n t : Int) (v : Nat) (w : World) (R : Ending → World → Prop) (ht2 : t ≤ 65535) (hv : v < 18446744073709551616) (hn1 : 1 ≤ n) (hnt : n ≤ t) (h64 : t - n < 64)
    (hw : isWin w b t v) (hn : mayC t v n = 0) (hR : ∀ w', isWin w' b t (takeV t v n) → Mod [b] w w' → R (.returned (.int .i64 0)) w') :
    Calls Try.prog 10 #[.pointer (some ⟨b, 0, none⟩), .int .i64 n] w R := by
  have hnt' : ¬ t < n := by omega
  have hc0 := hw.c0; have hc1 := hw.c1; have hf1 := hw.fr (o := 1)
  have hi : inI64 (t - n) := by unfold inI64; omega
  have h0 : 0 ≤ t - n := by omega
  obtain ⟨k, hk⟩ := Int.eq_ofNat_of_zero_le h0
  have hX := shl_old k (by omega)
  rw [← hk] at hX
  have hlt : (1 <<< k) < 18446744073709551616 := by rw [Nat.one_shiftLeft]; exact Nat.pow_lt_pow_right (by omega : 1 < 2) (by omega : k < 64)
  have hor := u64_or_nat v (1 <<< k) hv hlt
  have hT : takeV t v n = v ||| (1 <<< k) := by unfold takeV; rw [if_neg hnt', show (t - n).toNat = k from by omega]
  rw [hT] at hR
  refine calls_go 4000 okT Try.func10 rfl (rs := [.tmp 4]) rfl Try.ntmps10 (args := [.pointer (some ⟨b, 0, none⟩), .int .i64 n]) ?_
  simp (config := { maxSteps := 1000000 }) (disch := first | omega | (simp only [sizeAlloc, sizeDrew, sizeSet, sizePut]; omega) | fail) only [GS1, GS2, GS3, GS4, GS5, GS6, GS7, GS8, GS9, GS10, TT_eq, TTl, Nat.reduceAdd, Nat.reduceMul, Nat.reduceSub, Nat.reduceDiv, Nat.reduceMod, Nat.reducePow, Nat.reduceEqDiff, ↓reduceIte, reduceCtorEq, true_and, and_true, and_self, false_and, and_false, Int.reduceToNat, Int.reduceAdd, Int.reduceSub, Int.reduceMul, cond_true, cond_false, List.toList_toArray, Option.map_some, Option.map_none, Option.some.injEq, List.cons_append, List.nil_append, List.nil_append, List.append_nil]
  refine ⟨fok28, May_cps b n t v w _ (by omega) ht2 hv hw.c0 hw.c1 fun m => .inl ⟨_, rfl, ?_⟩⟩
  rw [hn]
  refine hold_ops okT (rs := [.tmp 4]) rfl ?_
  simp (config := { maxSteps := 1000000 }) (disch := first | omega | (simp only [sizeAlloc, sizeDrew, sizeSet, sizePut]; omega) | fail) only [GS1, GS2, GS3, GS4, GS5, GS6, GS7, GS8, GS9, GS10, TT_eq, TTl, Nat.reduceAdd, Nat.reduceMul, Nat.reduceSub, Nat.reduceDiv, Nat.reduceMod, Nat.reducePow, Nat.reduceEqDiff, ↓reduceIte, reduceCtorEq, true_and, and_true, and_self, false_and, and_false, Int.reduceToNat, Int.reduceAdd, Int.reduceSub, Int.reduceMul, cond_true, cond_false, List.toList_toArray, Option.map_some, Option.map_none, Option.some.injEq, List.cons_append, List.nil_append, hc0, cellDrew, hnt', decide_false, decide_true]
  refine hold_draw okT (rs := [.tmp 4]) rfl [0, 1, 3, 7, 15, 0, 32, 96, 224, 480, 0, 2016, 4064, 8191, 16383, 32767, 65535, 131071] [0, 1, 2, 3, 4, 5, 6, 7, 8, 9, 10, 11, 12, 13, 14, 15, 16, 17] (by kernel_rfl) (by kernel_rfl) ?_
  simp (config := { maxSteps := 1000000 }) (disch := first | omega | (simp only [sizeAlloc, sizeDrew, sizeSet, sizePut]; omega) | fail) only [GS1, GS2, GS3, GS4, GS5, GS6, GS7, GS8, GS9, GS10, TT_eq, TTl, Nat.reduceAdd, Nat.reduceMul, Nat.reduceSub, Nat.reduceDiv, Nat.reduceMod, Nat.reducePow, Nat.reduceEqDiff, ↓reduceIte, reduceCtorEq, true_and, and_true, and_self, false_and, and_false, Int.reduceToNat, Int.reduceAdd, Int.reduceSub, Int.reduceMul, cond_true, cond_false, List.toList_toArray, Option.map_some, Option.map_none, Option.some.injEq, List.cons_append, List.nil_append, hc0, hc1, hf1, hi, h0, hX, hor, decide_false]
  exact hR _ (heapSet hw) (((Mod.refl [b] w).drewN _).set (.inl (by simp)) _)
set_option maxRecDepth 20000 in
theorem Take_new (b : Nat) (n t : Int) (v : Nat) (w : World) (R : Ending → World → Prop) (ht : 0 ≤ t) (ht2 : t ≤ 65535) (hv : v < 18446744073709551616) (hn2 : n ≤ 65535) (hnt : t < n)
    (hw : isWin w b t v) (hn : mayC t v n = 0) (hR : ∀ w', isWin w' b n (takeV t v n) → Mod [b] w w' → R (.returned (.int .i64 0)) w') :
    Calls Try.prog 10 #[.pointer (some ⟨b, 0, none⟩), .int .i64 n] w R := by
  have hc0 := hw.c0; have hc1 := hw.c1; have hf1 := hw.fr (o := 1); have hf0 := hw.fr (o := 0)
  have hi : inI64 (n - t) := by unfold inI64; omega
  have hi2 : inI64 0 := by unfold inI64; omega
  have h0 : 0 ≤ n - t := by omega
  have hnn : n - n = 0 := by omega
  obtain ⟨k, hk⟩ := Int.eq_ofNat_of_zero_le h0
  have hX := shl_new v k hv
  rw [← hk] at hX
  have hX1 : IntKind.u64.wrap (1 * 2 ^ capN IntKind.u64 0) = 1 := shl_old 0 (by omega)
  have hlt : (v <<< k % 18446744073709551616) < 18446744073709551616 := Nat.mod_lt _ (by omega)
  have hor : bits .or .u64 ((v <<< k % 18446744073709551616 : Nat) : Int) 1 = (((v <<< k % 18446744073709551616) ||| 1 : Nat) : Int) := u64_or_nat (v <<< k % 18446744073709551616) 1 hlt (by omega)
  have hT : takeV t v n = (v <<< k % 18446744073709551616) ||| 1 := by unfold takeV; rw [if_pos hnt, show (n - t).toNat = k from by omega]
  rw [hT] at hR
  generalize (v <<< k % 18446744073709551616) = x at hX hor hR hlt
  refine calls_go 4000 okT Try.func10 rfl (rs := [.tmp 4]) rfl Try.ntmps10 (args := [.pointer (some ⟨b, 0, none⟩), .int .i64 n]) ?_
  simp (config := { maxSteps := 1000000 }) (disch := first | omega | (simp only [sizeAlloc, sizeDrew, sizeSet, sizePut]; omega) | fail) only [GS1, GS2, GS3, GS4, GS5, GS6, GS7, GS8, GS9, GS10, TT_eq, TTl, Nat.reduceAdd, Nat.reduceMul, Nat.reduceSub, Nat.reduceDiv, Nat.reduceMod, Nat.reducePow, Nat.reduceEqDiff, ↓reduceIte, reduceCtorEq, true_and, and_true, and_self, false_and, and_false, Int.reduceToNat, Int.reduceAdd, Int.reduceSub, Int.reduceMul, cond_true, cond_false, List.toList_toArray, Option.map_some, Option.map_none, Option.some.injEq, List.cons_append, List.nil_append, List.nil_append, List.append_nil]
  refine ⟨fok28, May_cps b n t v w _ (by omega) ht2 hv hw.c0 hw.c1 fun m => .inl ⟨_, rfl, ?_⟩⟩
  rw [hn]
  refine hold_ops okT (rs := [.tmp 4]) rfl ?_
  simp (config := { maxSteps := 1000000 }) (disch := first | omega | (simp only [sizeAlloc, sizeDrew, sizeSet, sizePut]; omega) | fail) only [GS1, GS2, GS3, GS4, GS5, GS6, GS7, GS8, GS9, GS10, TT_eq, TTl, Nat.reduceAdd, Nat.reduceMul, Nat.reduceSub, Nat.reduceDiv, Nat.reduceMod, Nat.reducePow, Nat.reduceEqDiff, ↓reduceIte, reduceCtorEq, true_and, and_true, and_self, false_and, and_false, Int.reduceToNat, Int.reduceAdd, Int.reduceSub, Int.reduceMul, cond_true, cond_false, List.toList_toArray, Option.map_some, Option.map_none, Option.some.injEq, List.cons_append, List.nil_append, hc0, cellDrew, hnt, decide_false, decide_true]
  refine hold_draw okT (rs := [.tmp 4]) rfl [0, 0, 0, 4, 12, 28, 60, 0, 0, 256, 768, 1792, 3840, 8064, 16380, 0, 32765, 98301, 229373, 491517, 1048575, 2097151, 4194303, 8388607] [0, 1, 2, 3, 4, 5, 6, 7, 8, 9, 10, 11, 12, 13, 14, 15, 16, 17, 18, 19, 20, 21, 22, 23] (by kernel_rfl) (by kernel_rfl) ?_
  simp (config := { maxSteps := 1000000 }) (disch := first | omega | (simp only [sizeAlloc, sizeDrew, sizeSet, sizePut]; omega) | fail) only [GS1, GS2, GS3, GS4, GS5, GS6, GS7, GS8, GS9, GS10, TT_eq, TTl, Nat.reduceAdd, Nat.reduceMul, Nat.reduceSub, Nat.reduceDiv, Nat.reduceMod, Nat.reducePow, Nat.reduceEqDiff, ↓reduceIte, reduceCtorEq, true_and, and_true, and_self, false_and, and_false, Int.reduceToNat, Int.reduceAdd, Int.reduceSub, Int.reduceMul, cond_true, cond_false, List.toList_toArray, Option.map_some, Option.map_none, Option.some.injEq, List.cons_append, List.nil_append, hc0, hc1, hf1, hf0, hi, h0, hX, hor, decide_false]
  have hw1 : isWin ((w.setCell ⟨b, 1, none⟩ (.int .u64 x)).setCell ⟨b, 0, none⟩ (.int .i64 n)) b n x := heapSet (heapSet hw)
  have hs1 : Mod [b] w ((w.setCell ⟨b, 1, none⟩ (.int .u64 x)).setCell ⟨b, 0, none⟩ (.int .i64 n)) := ((Mod.refl [b] w).set (.inl (by simp)) _).set (.inl (by simp)) _
  generalize (w.setCell ⟨b, 1, none⟩ (.int .u64 x)).setCell ⟨b, 0, none⟩ (.int .i64 n) = W at hw1 hs1 ⊢
  have gc0 := hw1.c0; have gc1 := hw1.c1; have gf1 := hw1.fr (o := 1)
  have h00 : (0 : Int) ≤ 0 := Int.le_refl 0
  refine hold_draw okT (rs := [.tmp 4]) rfl [0, 1, 3, 7, 15, 0, 32, 96, 224, 480, 0, 2016, 4064, 8191, 16383, 32767, 65535, 131071] [0, 1, 2, 3, 4, 5, 6, 7, 8, 9, 10, 11, 12, 13, 14, 15, 16, 17] (by kernel_rfl) (by kernel_rfl) ?_
  simp (config := { maxSteps := 1000000 }) (disch := first | omega | (simp only [sizeAlloc, sizeDrew, sizeSet, sizePut]; omega) | fail) only [GS1, GS2, GS3, GS4, GS5, GS6, GS7, GS8, GS9, GS10, TT_eq, TTl, Nat.reduceAdd, Nat.reduceMul, Nat.reduceSub, Nat.reduceDiv, Nat.reduceMod, Nat.reducePow, Nat.reduceEqDiff, ↓reduceIte, reduceCtorEq, true_and, and_true, and_self, false_and, and_false, Int.reduceToNat, Int.reduceAdd, Int.reduceSub, Int.reduceMul, cond_true, cond_false, List.toList_toArray, Option.map_some, Option.map_none, Option.some.injEq, List.cons_append, List.nil_append, gc0, gc1, gf1, hi2, hnn, h00, hX1, hor]
  exact hR _ (heapSet hw1) ((hs1.set (.inl (by simp)) _).drewN _)
theorem Take_cps (b : Nat) (n t : Int) (v : Nat) (w : World) (R : Ending → World → Prop) (ht : 0 ≤ t) (ht2 : t ≤ 65535) (hv : v < 18446744073709551616) (hw : isWin w b t v)
    (h1 : mayC t v n ≠ 0 → ∀ m, R (.returned (.int .i64 (mayC t v n))) (w.drewN m))
    (h2 : mayC t v n = 0 → ∀ w', isWin w' b (max t n) (takeV t v n) → Mod [b] w w' → R (.returned (.int .i64 0)) w') :
    Calls Try.prog 10 #[.pointer (some ⟨b, 0, none⟩), .int .i64 n] w R := by
  by_cases hn : mayC t v n = 0
  · have h2 := h2 hn
    have hb : 1 ≤ n ∧ n ≤ 65535 ∧ t - n < 64 := by
      unfold mayC at hn
      split at hn
      · simp at hn
      · split at hn
        · simp at hn
        · split at hn
          · simp at hn
          · omega
    by_cases hnt : t < n
    · rw [Int.max_eq_right (by omega)] at h2
      exact Take_new b n t v w R ht ht2 hv hb.2.1 hnt hw hn h2
    · rw [Int.max_eq_left (by omega)] at h2
      exact Take_old b n t v w R ht2 hv hb.1 (by omega) hb.2.2 hw hn h2
  · exact Take_fail b n t v w R ht ht2 hv hw.c0 hw.c1 hn (h1 hn)
theorem New_cps (w : World) (R : Ending → World → Prop) (hR : isWin (w.alloc (.cells #[.int .i64 0, .int .u64 0] 59)) w.heap.size 0 0 → R (.returned (.pointer (some ⟨w.heap.size, 0, none⟩))) (w.alloc (.cells #[.int .i64 0, .int .u64 0] 59))) :
    Calls Try.prog 8 #[] w R := by
  refine calls_go 4000 okT Try.func8 rfl (rs := [.tmp 0]) rfl Try.ntmps8 (args := []) ?_
  simp (config := { maxSteps := 1000000 }) (disch := first | omega | (simp only [sizeAlloc, sizeDrew, sizeSet, sizePut]; omega) | fail) only [GS1, GS2, GS3, GS4, GS5, GS6, GS7, GS8, GS9, GS10, TT_eq, TTl, Nat.reduceAdd, Nat.reduceMul, Nat.reduceSub, Nat.reduceDiv, Nat.reduceMod, Nat.reducePow, Nat.reduceEqDiff, ↓reduceIte, reduceCtorEq, true_and, and_true, and_self, false_and, and_false, Int.reduceToNat, Int.reduceAdd, Int.reduceSub, Int.reduceMul, cond_true, cond_false, List.toList_toArray, Option.map_some, Option.map_none, Option.some.injEq, List.cons_append, List.nil_append]
  exact hR (by unfold isWin; rw [World.alloc]; simp)
theorem Top_cps (b : Nat) (t : Int) (v : Nat) (w : World) (R : Ending → World → Prop) (hw : isWin w b t v) (hR : R (.returned (.int .i64 t)) w) :
    Calls Try.prog 9 #[.pointer (some ⟨b, 0, none⟩)] w R := by
  have hc0 := hw.c0
  refine calls_go 4000 okT Try.func9 rfl (rs := [.tmp 2]) rfl Try.ntmps9 (args := [.pointer (some ⟨b, 0, none⟩)]) ?_
  simp (config := { maxSteps := 1000000 }) (disch := first | omega | (simp only [sizeAlloc, sizeDrew, sizeSet, sizePut]; omega) | fail) only [GS1, GS2, GS3, GS4, GS5, GS6, GS7, GS8, GS9, GS10, TT_eq, TTl, Nat.reduceAdd, Nat.reduceMul, Nat.reduceSub, Nat.reduceDiv, Nat.reduceMod, Nat.reducePow, Nat.reduceEqDiff, ↓reduceIte, reduceCtorEq, true_and, and_true, and_self, false_and, and_false, Int.reduceToNat, Int.reduceAdd, Int.reduceSub, Int.reduceMul, cond_true, cond_false, List.toList_toArray, Option.map_some, Option.map_none, Option.some.injEq, List.cons_append, List.nil_append, hc0]
  exact hR
end Go.Proofs.Ytechabbdobbooaa
