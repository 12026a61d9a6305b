/-
  The reference's peer: its functions (walks).
-/
import Derived.Test.YtechabbdobbooaaPlay1
set_option linter.unusedSimpArgs false
set_option linter.unusedVariables false
namespace Go.Proofs.Ytechabbdobbooaa
open Go Go.Wk Go.RowKit
attribute [local irreducible] go Hold
/-- A peer of the reference in memory. -/
structure RP (w : World) (base rp rw : Nat) (sv : Value) (s : PS) (xs : List Int) : Prop where
  c : w.heap[rp]? = some (.cells #[.int .i64 s.own, .int .i64 s.known, .int .i64 s.sent, .pointer (some ⟨rw, 0, none⟩)] 50 (0, 0))
  w : RW w base rw sv xs
  r : RRel s.t s.v xs
  b1 : base ≤ rp
  b2 : base ≤ rw
theorem RP.mod {S : List Nat} {w w' : World} {base rp rw : Nat} {sv : Value} {s : PS} {xs : List Int} (h : RP w base rp rw sv s xs) (hm : Mod S w w') (h0 : rp ∉ S) (h1 : rw ∉ S) (h2 : ∀ g, sv.ownBlock = some g → g ∉ S) : RP w' base rp rw sv s xs := ⟨hm.get h.c h0, h.w.mod hm h1 h2, h.r, h.b1, h.b2⟩
theorem RP.top {w : World} {base rp rw : Nat} {sv : Value} {s : PS} {xs : List Int} (h : RP w base rp rw sv s xs) : 0 ≤ topL xs ∧ topL xs ≤ 65535 := by
  rw [h.r.top]; exact ⟨h.r.rel.t0, h.r.rel.t1⟩
theorem RP.wok {w : World} {base rp rw : Nat} {sv : Value} {s : PS} {xs : List Int} (h : RP w base rp rw sv s xs) : WOk (s.t, s.v) := ⟨h.r.rel.t0, h.r.rel.t1, h.r.rel.v1⟩
theorem epoch_cps (n : Int) (w : World) (R : Ending → World → Prop) (hR : R (.returned (.bool (decide (epochOk n)))) w) : Calls Try.prog 33 #[.int .i64 n] w R := by
  by_cases h1 : 1 ≤ n
  · by_cases h2 : n ≤ 255
    · refine calls_go 4000 okT Try.func33 rfl (rs := [.tmp 2]) rfl Try.ntmps33 (args := [.int .i64 n]) ?_
      simp (config := { maxSteps := 1000000 }) (disch := first | omega | (simp only [sizeAlloc, sizeDrew, sizeSet, sizePut]; omega) | fail) only [GS1, GS2, GS3, GS4, GS5, GS6, GS7, GS8, GS9, GS10, TT_eq, TTl, Nat.reduceAdd, Nat.reduceMul, Nat.reduceSub, Nat.reduceDiv, Nat.reduceMod, Nat.reducePow, Nat.reduceEqDiff, ↓reduceIte, reduceCtorEq, true_and, and_true, and_self, false_and, and_false, Int.reduceToNat, Int.reduceAdd, Int.reduceSub, Int.reduceMul, cond_true, cond_false, List.toList_toArray, Option.map_some, Option.map_none, Option.some.injEq, List.cons_append, List.nil_append]
      rw [decide_eq_true ⟨h1, h2⟩] at hR
      exact hR
    · refine calls_go 4000 okT Try.func33 rfl (rs := [.tmp 2]) rfl Try.ntmps33 (args := [.int .i64 n]) ?_
      simp (config := { maxSteps := 1000000 }) (disch := first | omega | (simp only [sizeAlloc, sizeDrew, sizeSet, sizePut]; omega) | fail) only [GS1, GS2, GS3, GS4, GS5, GS6, GS7, GS8, GS9, GS10, TT_eq, TTl, Nat.reduceAdd, Nat.reduceMul, Nat.reduceSub, Nat.reduceDiv, Nat.reduceMod, Nat.reducePow, Nat.reduceEqDiff, ↓reduceIte, reduceCtorEq, true_and, and_true, and_self, false_and, and_false, Int.reduceToNat, Int.reduceAdd, Int.reduceSub, Int.reduceMul, cond_true, cond_false, List.toList_toArray, Option.map_some, Option.map_none, Option.some.injEq, List.cons_append, List.nil_append]
      rw [decide_eq_false (fun h => h2 h.2)] at hR
      exact hR
  · refine calls_go 4000 okT Try.func33 rfl (rs := [.tmp 2]) rfl Try.ntmps33 (args := [.int .i64 n]) ?_
    simp (config := { maxSteps := 1000000 }) (disch := first | omega | (simp only [sizeAlloc, sizeDrew, sizeSet, sizePut]; omega) | fail) only [GS1, GS2, GS3, GS4, GS5, GS6, GS7, GS8, GS9, GS10, TT_eq, TTl, Nat.reduceAdd, Nat.reduceMul, Nat.reduceSub, Nat.reduceDiv, Nat.reduceMod, Nat.reducePow, Nat.reduceEqDiff, ↓reduceIte, reduceCtorEq, true_and, and_true, and_self, false_and, and_false, Int.reduceToNat, Int.reduceAdd, Int.reduceSub, Int.reduceMul, cond_true, cond_false, List.toList_toArray, Option.map_some, Option.map_none, Option.some.injEq, List.cons_append, List.nil_append]
    rw [decide_eq_false (fun h => h1 h.1)] at hR
    exact hR
theorem rNew_cps (own : Int) (w : World) (base : Nat) (hb : base ≤ w.heap.size) (R : Ending → World → Prop)
    (h1 : ¬ epochOk own → R (.returned (.pointer none)) w)
    (h2 : epochOk own → ∀ w' rp rw, w.heap.size ≤ rp → w.heap.size ≤ rw → RP w' base rp rw (.slice none 0 0) (newS own) [] → Mod [] w w' → R (.returned (.pointer (some ⟨rp, 0, none⟩))) w') :
    Calls Try.prog 17 #[.int .i64 own] w R := by
  refine calls_go 4000 okT Try.func17 rfl (rs := [.tmp 2]) rfl Try.ntmps17 (args := [.int .i64 own]) ?_
  simp (config := { maxSteps := 1000000 }) (disch := first | omega | (simp only [sizeAlloc, sizeDrew, sizeSet, sizePut]; omega) | fail) only [GS1, GS2, GS3, GS4, GS5, GS6, GS7, GS8, GS9, GS10, TT_eq, TTl, Nat.reduceAdd, Nat.reduceMul, Nat.reduceSub, Nat.reduceDiv, Nat.reduceMod, Nat.reducePow, Nat.reduceEqDiff, ↓reduceIte, reduceCtorEq, true_and, and_true, and_self, false_and, and_false, Int.reduceToNat, Int.reduceAdd, Int.reduceSub, Int.reduceMul, cond_true, cond_false, List.toList_toArray, Option.map_some, Option.map_none, Option.some.injEq, List.cons_append, List.nil_append]
  refine ⟨fok33, epoch_cps own _ _ (.inl ⟨_, rfl, hold_ops okT (rs := [.tmp 2]) rfl ?_⟩)⟩
  by_cases h : epochOk own
  · rw [decide_eq_true h]
    simp (config := { maxSteps := 1000000 }) (disch := first | omega | (simp only [sizeAlloc, sizeDrew, sizeSet, sizePut]; omega) | fail) only [GS1, GS2, GS3, GS4, GS5, GS6, GS7, GS8, GS9, GS10, TT_eq, TTl, Nat.reduceAdd, Nat.reduceMul, Nat.reduceSub, Nat.reduceDiv, Nat.reduceMod, Nat.reducePow, Nat.reduceEqDiff, ↓reduceIte, reduceCtorEq, true_and, and_true, and_self, false_and, and_false, Int.reduceToNat, Int.reduceAdd, Int.reduceSub, Int.reduceMul, cond_true, cond_false, List.toList_toArray, Option.map_some, Option.map_none, Option.some.injEq, List.cons_append, List.nil_append]
    refine h2 h _ (w.heap.size + 1) w.heap.size (by omega) (by omega) ⟨heapAe (by simp), ⟨heapAlloc heapNew, World.ownsRow_nil _ _ _ _⟩, RRel.nil, by omega, by omega⟩ (((Mod.refl _ _).alloc _).alloc _)
  · rw [decide_eq_false h]
    simp (config := { maxSteps := 1000000 }) (disch := first | omega | (simp only [sizeAlloc, sizeDrew, sizeSet, sizePut]; omega) | fail) only [GS1, GS2, GS3, GS4, GS5, GS6, GS7, GS8, GS9, GS10, TT_eq, TTl, Nat.reduceAdd, Nat.reduceMul, Nat.reduceSub, Nat.reduceDiv, Nat.reduceMod, Nat.reducePow, Nat.reduceEqDiff, ↓reduceIte, reduceCtorEq, true_and, and_true, and_self, false_and, and_false, Int.reduceToNat, Int.reduceAdd, Int.reduceSub, Int.reduceMul, cond_true, cond_false, List.toList_toArray, Option.map_some, Option.map_none, Option.some.injEq, List.cons_append, List.nil_append]
    exact h1 h
set_option maxRecDepth 20000 in
set_option maxHeartbeats 1000000 in
theorem rStamp_cps (base rp rw : Nat) (sv : Value) (s : PS) (xs : List Int) (w : World) (R : Ending → World → Prop) (h : RP w base rp rw sv s xs) (hs : 0 ≤ s.sent ∧ s.sent ≤ 65535)
    (hR : ∀ w', RP w' base rp rw sv (stampS s) xs → Mod [rp] w w' → R (.returned (stampA s)) w') : Calls Try.prog 21 #[.pointer (some ⟨rp, 0, none⟩)] w R := by
  have c2 := cellOf (o := 2) h.c
  have f2 := frozenOf (o := 2) h.c
  by_cases h1 : s.sent = 65535
  · refine calls_go 4000 okT Try.func21 rfl (rs := [.tmp 2, .tmp 3, .tmp 4, .tmp 5]) rfl Try.ntmps21 (args := [.pointer (some ⟨rp, 0, none⟩)]) ?_
    simp (config := { maxSteps := 1000000 }) (disch := first | omega | (simp only [sizeAlloc, sizeDrew, sizeSet, sizePut]; omega) | fail) only [GS1, GS2, GS3, GS4, GS5, GS6, GS7, GS8, GS9, GS10, TT_eq, TTl, Nat.reduceAdd, Nat.reduceMul, Nat.reduceSub, Nat.reduceDiv, Nat.reduceMod, Nat.reducePow, Nat.reduceEqDiff, ↓reduceIte, reduceCtorEq, true_and, and_true, and_self, false_and, and_false, Int.reduceToNat, Int.reduceAdd, Int.reduceSub, Int.reduceMul, cond_true, cond_false, List.toList_toArray, Option.map_some, Option.map_none, Option.some.injEq, List.cons_append, List.nil_append, c2]
    unfold stampA stampS at hR
    rw [if_pos h1, if_pos h1] at hR
    exact hR _ h (Mod.refl _ _)
  · refine calls_go 4000 okT Try.func21 rfl (rs := [.tmp 2, .tmp 3, .tmp 4, .tmp 5]) rfl Try.ntmps21 (args := [.pointer (some ⟨rp, 0, none⟩)]) ?_
    have c0 := cellOf (o := 0) h.c; have c1 := cellOf (o := 1) h.c
    simp (config := { maxSteps := 1000000 }) (disch := first | omega | (simp only [sizeAlloc, sizeDrew, sizeSet, sizePut]; omega) | fail) only [GS1, GS2, GS3, GS4, GS5, GS6, GS7, GS8, GS9, GS10, TT_eq, TTl, Nat.reduceAdd, Nat.reduceMul, Nat.reduceSub, Nat.reduceDiv, Nat.reduceMod, Nat.reducePow, Nat.reduceEqDiff, ↓reduceIte, reduceCtorEq, true_and, and_true, and_self, false_and, and_false, Int.reduceToNat, Int.reduceAdd, Int.reduceSub, Int.reduceMul, cond_true, cond_false, List.toList_toArray, Option.map_some, Option.map_none, Option.some.injEq, List.cons_append, List.nil_append, c0, c1, c2, f2]
    unfold stampA stampS at hR
    rw [if_neg h1, if_neg h1] at hR
    have hM : ∀ m, Mod [rp] w ((w.setCell ⟨rp, 2, none⟩ (.int .i64 (s.sent + 1))).drewN m) := fun m => ((Mod.refl _ _).set (.inl (by simp)) _).drewN m
    refine ⟨by kernel_rfl, fun m => hR _ ⟨heapSet h.c, h.w.mod (hM m) ?_ ?_, h.r, h.b1, h.b2⟩ (hM m)⟩
    · have := heap_ne h.w.c h.c (by decide); simpa using this
    · intro g hg; have := own_ne h.w.o h.c (by decide) g hg; simpa using this
set_option maxRecDepth 20000 in
set_option maxHeartbeats 1000000 in
theorem rLearn_cps (base rp rw : Nat) (sv : Value) (s : PS) (xs : List Int) (n : Int) (w : World) (R : Ending → World → Prop) (h : RP w base rp rw sv s xs) (hb : base ≤ w.heap.size)
    (hR : ∀ w' rw' sv' xs', (rw' = rw ∧ sv' = sv ∧ xs' = xs ∨ w.heap.size ≤ rw' ∧ sv' = .slice none 0 0 ∧ xs' = []) → RP w' base rp rw' sv' (hearS s n) xs' → Mod [rp] w w' → R (.returned (.bool (decide (¬ n < s.known)))) w') :
    Calls Try.prog 34 #[.pointer (some ⟨rp, 0, none⟩), .int .i64 n] w R := by
  have c1 := cellOf (o := 1) h.c; have f1 := frozenOf (o := 1) h.c; have f3 := frozenOf (o := 3) h.c; have c3 := cellOf (o := 3) h.c
  have hl := ltOf h.c
  have hne : rp ≠ w.heap.size := by omega
  by_cases h1 : n < s.known
  · refine calls_go 4000 okT Try.func34 rfl (rs := [.tmp 4]) rfl Try.ntmps34 (args := [.pointer (some ⟨rp, 0, none⟩), .int .i64 n]) ?_
    simp (config := { maxSteps := 1000000 }) (disch := first | omega | (simp only [sizeAlloc, sizeDrew, sizeSet, sizePut]; omega) | fail) only [GS1, GS2, GS3, GS4, GS5, GS6, GS7, GS8, GS9, GS10, TT_eq, TTl, Nat.reduceAdd, Nat.reduceMul, Nat.reduceSub, Nat.reduceDiv, Nat.reduceMod, Nat.reducePow, Nat.reduceEqDiff, ↓reduceIte, reduceCtorEq, true_and, and_true, and_self, false_and, and_false, Int.reduceToNat, Int.reduceAdd, Int.reduceSub, Int.reduceMul, cond_true, cond_false, List.toList_toArray, Option.map_some, Option.map_none, Option.some.injEq, List.cons_append, List.nil_append, c1]
    rw [decide_eq_false (by simpa using h1)] at hR
    have e : hearS s n = s := by unfold hearS; rw [if_neg (by omega)]
    rw [e] at hR
    exact hR _ _ _ _ (.inl ⟨rfl, rfl, rfl⟩) h (Mod.refl _ _)
  · rw [decide_eq_true (by simpa using h1)] at hR
    by_cases h2 : s.known < n
    · have e : hearS s n = { s with known := n, t := 0, v := 0 } := by unfold hearS; rw [if_pos h2]
      rw [e] at hR
      refine calls_go 4000 okT Try.func34 rfl (rs := [.tmp 4]) rfl Try.ntmps34 (args := [.pointer (some ⟨rp, 0, none⟩), .int .i64 n]) ?_
      simp (config := { maxSteps := 1000000 }) (disch := first | omega | (simp only [sizeAlloc, sizeDrew, sizeSet, sizePut]; omega) | fail) only [GS1, GS2, GS3, GS4, GS5, GS6, GS7, GS8, GS9, GS10, TT_eq, TTl, Nat.reduceAdd, Nat.reduceMul, Nat.reduceSub, Nat.reduceDiv, Nat.reduceMod, Nat.reducePow, Nat.reduceEqDiff, ↓reduceIte, reduceCtorEq, true_and, and_true, and_self, false_and, and_false, Int.reduceToNat, Int.reduceAdd, Int.reduceSub, Int.reduceMul, cond_true, cond_false, List.toList_toArray, Option.map_some, Option.map_none, Option.some.injEq, List.cons_append, List.nil_append, c1, c3, f1, f3]
      refine hR _ w.heap.size (.slice none 0 0) [] (.inr ⟨Nat.le_refl _, rfl, rfl⟩) ?_ ?_
      · exact ⟨heapSet (heapAlloc (heapSet h.c)), ⟨heapSetNe (heapAe (by simp)) hne.symm, World.ownsRow_nil _ _ _ _⟩, RRel.nil, h.b1, hb⟩
      · exact (((Mod.refl [rp] w).set (.inl (by simp)) _).alloc _).set (.inl (by simp)) _
    · have e : hearS s n = s := by unfold hearS; rw [if_neg h2]
      rw [e] at hR
      refine calls_go 4000 okT Try.func34 rfl (rs := [.tmp 4]) rfl Try.ntmps34 (args := [.pointer (some ⟨rp, 0, none⟩), .int .i64 n]) ?_
      simp (config := { maxSteps := 1000000 }) (disch := first | omega | (simp only [sizeAlloc, sizeDrew, sizeSet, sizePut]; omega) | fail) only [GS1, GS2, GS3, GS4, GS5, GS6, GS7, GS8, GS9, GS10, TT_eq, TTl, Nat.reduceAdd, Nat.reduceMul, Nat.reduceSub, Nat.reduceDiv, Nat.reduceMod, Nat.reducePow, Nat.reduceEqDiff, ↓reduceIte, reduceCtorEq, true_and, and_true, and_self, false_and, and_false, Int.reduceToNat, Int.reduceAdd, Int.reduceSub, Int.reduceMul, cond_true, cond_false, List.toList_toArray, Option.map_some, Option.map_none, Option.some.injEq, List.cons_append, List.nil_append, c1]
      exact hR _ _ _ _ (.inl ⟨rfl, rfl, rfl⟩) h (Mod.refl _ _)
set_option maxHeartbeats 1000000 in
theorem rHear_cps (base rp rw : Nat) (sv : Value) (s : PS) (xs : List Int) (n : Int) (w : World) (R : Ending → World → Prop) (h : RP w base rp rw sv s xs) (hb : base ≤ w.heap.size)
    (hR : ∀ w' rw' sv' xs', xs'.length ≤ xs.length → RP w' base rp rw' sv' (hearT s n) xs' → Mod [rp] w w' → R (.returned (.int .i64 (hearC s n))) w') :
    Calls Try.prog 20 #[.pointer (some ⟨rp, 0, none⟩), .int .i64 n] w R := by
  refine calls_go 4000 okT Try.func20 rfl (rs := [.tmp 4]) rfl Try.ntmps20 (args := [.pointer (some ⟨rp, 0, none⟩), .int .i64 n]) ?_
  simp (config := { maxSteps := 1000000 }) (disch := first | omega | (simp only [sizeAlloc, sizeDrew, sizeSet, sizePut]; omega) | fail) only [GS1, GS2, GS3, GS4, GS5, GS6, GS7, GS8, GS9, GS10, TT_eq, TTl, Nat.reduceAdd, Nat.reduceMul, Nat.reduceSub, Nat.reduceDiv, Nat.reduceMod, Nat.reducePow, Nat.reduceEqDiff, ↓reduceIte, reduceCtorEq, true_and, and_true, and_self, false_and, and_false, Int.reduceToNat, Int.reduceAdd, Int.reduceSub, Int.reduceMul, cond_true, cond_false, List.toList_toArray, Option.map_some, Option.map_none, Option.some.injEq, List.cons_append, List.nil_append]
  refine ⟨fok33, epoch_cps n _ _ (.inl ⟨_, rfl, hold_ops okT (rs := [.tmp 4]) rfl ?_⟩)⟩
  by_cases he : epochOk n
  · rw [decide_eq_true he]
    simp (config := { maxSteps := 1000000 }) (disch := first | omega | (simp only [sizeAlloc, sizeDrew, sizeSet, sizePut]; omega) | fail) only [GS1, GS2, GS3, GS4, GS5, GS6, GS7, GS8, GS9, GS10, TT_eq, TTl, Nat.reduceAdd, Nat.reduceMul, Nat.reduceSub, Nat.reduceDiv, Nat.reduceMod, Nat.reducePow, Nat.reduceEqDiff, ↓reduceIte, reduceCtorEq, true_and, and_true, and_self, false_and, and_false, Int.reduceToNat, Int.reduceAdd, Int.reduceSub, Int.reduceMul, cond_true, cond_false, List.toList_toArray, Option.map_some, Option.map_none, Option.some.injEq, List.cons_append, List.nil_append]
    refine ⟨fok34, rLearn_cps base rp rw sv s xs n _ _ h hb fun w2 rw2 sv2 xs2 ho h2 hM => .inl ⟨_, rfl, hold_ops okT (rs := [.tmp 4]) rfl ?_⟩⟩
    have hlen : xs2.length ≤ xs.length := by rcases ho with ⟨_, _, rfl⟩ | ⟨_, _, rfl⟩ <;> simp
    by_cases hk : n < s.known
    · rw [decide_eq_false (by simpa using hk)]
      have hc : hearC s n = 180 := by unfold hearC; rw [if_neg (by simpa using he), if_pos hk]
      have e : hearT s n = hearS s n := by unfold hearT; rw [hc, if_neg (by decide)]; unfold hearS; rw [if_neg (by omega)]
      rw [hc, e] at hR
      simp (config := { maxSteps := 1000000 }) (disch := first | omega | (simp only [sizeAlloc, sizeDrew, sizeSet, sizePut]; omega) | fail) only [GS1, GS2, GS3, GS4, GS5, GS6, GS7, GS8, GS9, GS10, TT_eq, TTl, Nat.reduceAdd, Nat.reduceMul, Nat.reduceSub, Nat.reduceDiv, Nat.reduceMod, Nat.reducePow, Nat.reduceEqDiff, ↓reduceIte, reduceCtorEq, true_and, and_true, and_self, false_and, and_false, Int.reduceToNat, Int.reduceAdd, Int.reduceSub, Int.reduceMul, cond_true, cond_false, List.toList_toArray, Option.map_some, Option.map_none, Option.some.injEq, List.cons_append, List.nil_append]
      exact hR _ _ _ _ hlen h2 hM
    · rw [decide_eq_true (by simpa using hk)]
      have hc : hearC s n = 0 := by unfold hearC; rw [if_neg (by simpa using he), if_neg hk]
      have e : hearT s n = hearS s n := by unfold hearT; rw [hc, if_pos rfl]
      rw [hc, e] at hR
      simp (config := { maxSteps := 1000000 }) (disch := first | omega | (simp only [sizeAlloc, sizeDrew, sizeSet, sizePut]; omega) | fail) only [GS1, GS2, GS3, GS4, GS5, GS6, GS7, GS8, GS9, GS10, TT_eq, TTl, Nat.reduceAdd, Nat.reduceMul, Nat.reduceSub, Nat.reduceDiv, Nat.reduceMod, Nat.reducePow, Nat.reduceEqDiff, ↓reduceIte, reduceCtorEq, true_and, and_true, and_self, false_and, and_false, Int.reduceToNat, Int.reduceAdd, Int.reduceSub, Int.reduceMul, cond_true, cond_false, List.toList_toArray, Option.map_some, Option.map_none, Option.some.injEq, List.cons_append, List.nil_append]
      exact hR _ _ _ _ hlen h2 hM
  · rw [decide_eq_false he]
    have hc : hearC s n = 2 := by unfold hearC; rw [if_pos he]
    have e : hearT s n = s := by unfold hearT; rw [hc, if_neg (by decide)]
    rw [hc, e] at hR
    simp (config := { maxSteps := 1000000 }) (disch := first | omega | (simp only [sizeAlloc, sizeDrew, sizeSet, sizePut]; omega) | fail) only [GS1, GS2, GS3, GS4, GS5, GS6, GS7, GS8, GS9, GS10, TT_eq, TTl, Nat.reduceAdd, Nat.reduceMul, Nat.reduceSub, Nat.reduceDiv, Nat.reduceMod, Nat.reducePow, Nat.reduceEqDiff, ↓reduceIte, reduceCtorEq, true_and, and_true, and_self, false_and, and_false, Int.reduceToNat, Int.reduceAdd, Int.reduceSub, Int.reduceMul, cond_true, cond_false, List.toList_toArray, Option.map_some, Option.map_none, Option.some.injEq, List.cons_append, List.nil_append]
    exact hR _ _ _ _ (Nat.le_refl _) h (Mod.refl _ _)
set_option maxHeartbeats 2000000 in
theorem rpTake_cps (base rp rw : Nat) (sv : Value) (s : PS) (xs : List Int) (a b n : Int) (w : World) (R : Ending → World → Prop) (h : RP w base rp rw sv s xs) (hb : base ≤ w.heap.size) (hx : xs.length ≤ 1000000)
    (hR : ∀ w' rw' sv' xs', xs'.length ≤ xs.length + 1 → RP w' base rp rw' sv' (takeS s a b n) xs' → Mod (rp :: rw :: sv.ownBlock.toList) w w' → R (.returned (.int .i64 (takeC s a b n))) w') :
    Calls Try.prog 19 #[.pointer (some ⟨rp, 0, none⟩), .int .i64 a, .int .i64 b, .int .i64 n] w R := by
  have c0 := cellOf (o := 0) h.c
  refine calls_go 4000 okT Try.func19 rfl (rs := [.tmp 8]) rfl Try.ntmps19 (args := [.pointer (some ⟨rp, 0, none⟩), .int .i64 a, .int .i64 b, .int .i64 n]) ?_
  simp (config := { maxSteps := 1000000 }) (disch := first | omega | (simp only [sizeAlloc, sizeDrew, sizeSet, sizePut]; omega) | fail) only [GS1, GS2, GS3, GS4, GS5, GS6, GS7, GS8, GS9, GS10, TT_eq, TTl, Nat.reduceAdd, Nat.reduceMul, Nat.reduceSub, Nat.reduceDiv, Nat.reduceMod, Nat.reducePow, Nat.reduceEqDiff, ↓reduceIte, reduceCtorEq, true_and, and_true, and_self, false_and, and_false, Int.reduceToNat, Int.reduceAdd, Int.reduceSub, Int.reduceMul, cond_true, cond_false, List.toList_toArray, Option.map_some, Option.map_none, Option.some.injEq, List.cons_append, List.nil_append]
  refine ⟨fok33, epoch_cps a _ _ (.inl ⟨_, rfl, hold_ops okT (rs := [.tmp 8]) rfl ?_⟩)⟩
  by_cases hg : epochOk a ∧ epochOk b ∧ nonceOk n
  · have hg' : ¬ ¬ (epochOk a ∧ epochOk b ∧ nonceOk n) := by simpa using hg
    unfold takeC takeS at hR
    rw [if_neg hg', if_neg hg'] at hR
    obtain ⟨ga, gb, gn1, gn2⟩ := hg
    rw [decide_eq_true ga]
    simp (config := { maxSteps := 1000000 }) (disch := first | omega | (simp only [sizeAlloc, sizeDrew, sizeSet, sizePut]; omega) | fail) only [GS1, GS2, GS3, GS4, GS5, GS6, GS7, GS8, GS9, GS10, TT_eq, TTl, Nat.reduceAdd, Nat.reduceMul, Nat.reduceSub, Nat.reduceDiv, Nat.reduceMod, Nat.reducePow, Nat.reduceEqDiff, ↓reduceIte, reduceCtorEq, true_and, and_true, and_self, false_and, and_false, Int.reduceToNat, Int.reduceAdd, Int.reduceSub, Int.reduceMul, cond_true, cond_false, List.toList_toArray, Option.map_some, Option.map_none, Option.some.injEq, List.cons_append, List.nil_append]
    refine ⟨fok33, epoch_cps b _ _ (.inl ⟨_, rfl, hold_ops okT (rs := [.tmp 8]) rfl ?_⟩)⟩
    rw [decide_eq_true gb]
    by_cases ho : b = s.own
    · have ho' : ¬ (b ≠ s.own) := by simpa using ho
      rw [if_neg ho', if_neg ho'] at hR
      simp (config := { maxSteps := 1000000 }) (disch := first | omega | (simp only [sizeAlloc, sizeDrew, sizeSet, sizePut]; omega) | fail) only [GS1, GS2, GS3, GS4, GS5, GS6, GS7, GS8, GS9, GS10, TT_eq, TTl, Nat.reduceAdd, Nat.reduceMul, Nat.reduceSub, Nat.reduceDiv, Nat.reduceMod, Nat.reducePow, Nat.reduceEqDiff, ↓reduceIte, reduceCtorEq, true_and, and_true, and_self, false_and, and_false, Int.reduceToNat, Int.reduceAdd, Int.reduceSub, Int.reduceMul, cond_true, cond_false, List.toList_toArray, Option.map_some, Option.map_none, Option.some.injEq, List.cons_append, List.nil_append, c0, ho]
      refine ⟨fok34, rLearn_cps base rp rw sv s xs a _ _ h hb fun w2 rw2 sv2 xs2 hor h2 hM => .inl ⟨_, rfl, hold_ops okT (rs := [.tmp 8]) rfl ?_⟩⟩
      have hlen : xs2.length ≤ xs.length := by rcases hor with ⟨_, _, rfl⟩ | ⟨_, _, rfl⟩ <;> simp
      by_cases hk : a < s.known
      · rw [decide_eq_false (by simpa using hk)]
        have e : hearS s a = s := by unfold hearS; rw [if_neg (by omega)]
        rw [if_pos hk, if_pos hk] at hR
        rw [e] at h2
        simp (config := { maxSteps := 1000000 }) (disch := first | omega | (simp only [sizeAlloc, sizeDrew, sizeSet, sizePut]; omega) | fail) only [GS1, GS2, GS3, GS4, GS5, GS6, GS7, GS8, GS9, GS10, TT_eq, TTl, Nat.reduceAdd, Nat.reduceMul, Nat.reduceSub, Nat.reduceDiv, Nat.reduceMod, Nat.reducePow, Nat.reduceEqDiff, ↓reduceIte, reduceCtorEq, true_and, and_true, and_self, false_and, and_false, Int.reduceToNat, Int.reduceAdd, Int.reduceSub, Int.reduceMul, cond_true, cond_false, List.toList_toArray, Option.map_some, Option.map_none, Option.some.injEq, List.cons_append, List.nil_append]
        exact hR _ _ _ _ (by omega) h2 (hM.mono (by simp))
      · rw [decide_eq_true (by simpa using hk)]
        rw [if_neg hk, if_neg hk] at hR
        have c3 := cellOf (o := 3) h2.c
        simp (config := { maxSteps := 1000000 }) (disch := first | omega | (simp only [sizeAlloc, sizeDrew, sizeSet, sizePut]; omega) | fail) only [GS1, GS2, GS3, GS4, GS5, GS6, GS7, GS8, GS9, GS10, TT_eq, TTl, Nat.reduceAdd, Nat.reduceMul, Nat.reduceSub, Nat.reduceDiv, Nat.reduceMod, Nat.reducePow, Nat.reduceEqDiff, ↓reduceIte, reduceCtorEq, true_and, and_true, and_self, false_and, and_false, Int.reduceToNat, Int.reduceAdd, Int.reduceSub, Int.reduceMul, cond_true, cond_false, List.toList_toArray, Option.map_some, Option.map_none, Option.some.injEq, List.cons_append, List.nil_append, c3]
        refine ⟨fok35, rTake_cps rw2 base sv2 xs2 n _ _ h2.w (Nat.le_trans hb hM.size) (by omega) h2.top fun w3 sv3 h3 hM3 => .inl ⟨_, rfl, hold_ops okT (rs := [.tmp 8]) rfl ?_⟩⟩
        rw [h2.r.may]
        simp (config := { maxSteps := 1000000 }) (disch := first | omega | (simp only [sizeAlloc, sizeDrew, sizeSet, sizePut]; omega) | fail) only [GS1, GS2, GS3, GS4, GS5, GS6, GS7, GS8, GS9, GS10, TT_eq, TTl, Nat.reduceAdd, Nat.reduceMul, Nat.reduceSub, Nat.reduceDiv, Nat.reduceMod, Nat.reducePow, Nat.reduceEqDiff, ↓reduceIte, reduceCtorEq, true_and, and_true, and_self, false_and, and_false, Int.reduceToNat, Int.reduceAdd, Int.reduceSub, Int.reduceMul, cond_true, cond_false, List.toList_toArray, Option.map_some, Option.map_none, Option.some.injEq, List.cons_append, List.nil_append]
        rw [h2.r.may] at h3
        have hne1 : rp ≠ rw2 := heap_ne h2.c h2.w.c (by decide)
        have hne2 := fun g hg => own_ne h2.w.o h2.c (by decide) g hg
        refine hR _ rw2 sv3 _ ?_ ⟨hM3.get h2.c ?_, h3, ?_, h.b1, h2.b2⟩ (hM.mono (by simp) |>.trans hM3 ?_)
        · split <;> (try simp) <;> omega
        · intro hm
          simp only [List.mem_cons, Option.mem_toList] at hm
          rcases hm with hm | hm
          · exact hne1 hm
          · exact hne2 rp hm rfl
        · exact h2.r.tk n
        · intro y hy
          simp only [List.mem_cons, Option.mem_toList] at hy ⊢
          rcases hor with ⟨rfl, rfl, _⟩ | ⟨hw2, rfl, _⟩
          · exact .inl (.inr hy)
          · rcases hy with rfl | hy
            · exact .inr hw2
            · simp [Value.ownBlock] at hy
    · rw [if_pos ho, if_pos ho] at hR
      simp (config := { maxSteps := 1000000 }) (disch := first | omega | (simp only [sizeAlloc, sizeDrew, sizeSet, sizePut]; omega) | fail) only [GS1, GS2, GS3, GS4, GS5, GS6, GS7, GS8, GS9, GS10, TT_eq, TTl, Nat.reduceAdd, Nat.reduceMul, Nat.reduceSub, Nat.reduceDiv, Nat.reduceMod, Nat.reducePow, Nat.reduceEqDiff, ↓reduceIte, reduceCtorEq, true_and, and_true, and_self, false_and, and_false, Int.reduceToNat, Int.reduceAdd, Int.reduceSub, Int.reduceMul, cond_true, cond_false, List.toList_toArray, Option.map_some, Option.map_none, Option.some.injEq, List.cons_append, List.nil_append, c0, ho]
      exact hR _ _ _ _ (by omega) h (Mod.refl _ _)
  · unfold takeC takeS at hR
    rw [if_pos hg, if_pos hg] at hR
    have hend := hR _ _ _ _ (by omega) h (Mod.refl _ _)
    by_cases ga : epochOk a
    · rw [decide_eq_true ga]
      simp (config := { maxSteps := 1000000 }) (disch := first | omega | (simp only [sizeAlloc, sizeDrew, sizeSet, sizePut]; omega) | fail) only [GS1, GS2, GS3, GS4, GS5, GS6, GS7, GS8, GS9, GS10, TT_eq, TTl, Nat.reduceAdd, Nat.reduceMul, Nat.reduceSub, Nat.reduceDiv, Nat.reduceMod, Nat.reducePow, Nat.reduceEqDiff, ↓reduceIte, reduceCtorEq, true_and, and_true, and_self, false_and, and_false, Int.reduceToNat, Int.reduceAdd, Int.reduceSub, Int.reduceMul, cond_true, cond_false, List.toList_toArray, Option.map_some, Option.map_none, Option.some.injEq, List.cons_append, List.nil_append]
      refine ⟨fok33, epoch_cps b _ _ (.inl ⟨_, rfl, hold_ops okT (rs := [.tmp 8]) rfl ?_⟩)⟩
      by_cases gb : epochOk b
      · rw [decide_eq_true gb]
        have gn : ¬ nonceOk n := fun x => hg ⟨ga, gb, x⟩
        unfold nonceOk at gn
        by_cases g1 : n < 1
        · simp (config := { maxSteps := 1000000 }) (disch := first | omega | (simp only [sizeAlloc, sizeDrew, sizeSet, sizePut]; omega) | fail) only [GS1, GS2, GS3, GS4, GS5, GS6, GS7, GS8, GS9, GS10, TT_eq, TTl, Nat.reduceAdd, Nat.reduceMul, Nat.reduceSub, Nat.reduceDiv, Nat.reduceMod, Nat.reducePow, Nat.reduceEqDiff, ↓reduceIte, reduceCtorEq, true_and, and_true, and_self, false_and, and_false, Int.reduceToNat, Int.reduceAdd, Int.reduceSub, Int.reduceMul, cond_true, cond_false, List.toList_toArray, Option.map_some, Option.map_none, Option.some.injEq, List.cons_append, List.nil_append]
          exact hend
        · simp (config := { maxSteps := 1000000 }) (disch := first | omega | (simp only [sizeAlloc, sizeDrew, sizeSet, sizePut]; omega) | fail) only [GS1, GS2, GS3, GS4, GS5, GS6, GS7, GS8, GS9, GS10, TT_eq, TTl, Nat.reduceAdd, Nat.reduceMul, Nat.reduceSub, Nat.reduceDiv, Nat.reduceMod, Nat.reducePow, Nat.reduceEqDiff, ↓reduceIte, reduceCtorEq, true_and, and_true, and_self, false_and, and_false, Int.reduceToNat, Int.reduceAdd, Int.reduceSub, Int.reduceMul, cond_true, cond_false, List.toList_toArray, Option.map_some, Option.map_none, Option.some.injEq, List.cons_append, List.nil_append]
          exact hend
      · rw [decide_eq_false gb]
        simp (config := { maxSteps := 1000000 }) (disch := first | omega | (simp only [sizeAlloc, sizeDrew, sizeSet, sizePut]; omega) | fail) only [GS1, GS2, GS3, GS4, GS5, GS6, GS7, GS8, GS9, GS10, TT_eq, TTl, Nat.reduceAdd, Nat.reduceMul, Nat.reduceSub, Nat.reduceDiv, Nat.reduceMod, Nat.reducePow, Nat.reduceEqDiff, ↓reduceIte, reduceCtorEq, true_and, and_true, and_self, false_and, and_false, Int.reduceToNat, Int.reduceAdd, Int.reduceSub, Int.reduceMul, cond_true, cond_false, List.toList_toArray, Option.map_some, Option.map_none, Option.some.injEq, List.cons_append, List.nil_append]
        exact hend
    · rw [decide_eq_false ga]
      simp (config := { maxSteps := 1000000 }) (disch := first | omega | (simp only [sizeAlloc, sizeDrew, sizeSet, sizePut]; omega) | fail) only [GS1, GS2, GS3, GS4, GS5, GS6, GS7, GS8, GS9, GS10, TT_eq, TTl, Nat.reduceAdd, Nat.reduceMul, Nat.reduceSub, Nat.reduceDiv, Nat.reduceMod, Nat.reducePow, Nat.reduceEqDiff, ↓reduceIte, reduceCtorEq, true_and, and_true, and_self, false_and, and_false, Int.reduceToNat, Int.reduceAdd, Int.reduceSub, Int.reduceMul, cond_true, cond_false, List.toList_toArray, Option.map_some, Option.map_none, Option.some.injEq, List.cons_append, List.nil_append]
      exact hend
end Go.Proofs.Ytechabbdobbooaa
