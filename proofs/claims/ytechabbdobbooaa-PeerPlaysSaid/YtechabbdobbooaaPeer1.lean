/-
  The peer's functions: within, New, Own, Known, Stamp, Hear, Take.
-/
import Derived.Test.YtechabbdobbooaaWin5
set_option linter.unusedSimpArgs false
set_option linter.unusedVariables false
namespace Go.Proofs.Ytechabbdobbooaa
open Go Go.Wk Go.RowKit
attribute [local irreducible] go Hold
set_option maxRecDepth 20000 in
set_option maxHeartbeats 1000000 in
theorem within_cps (most : Int) (sl : Value) (xs : List Int) (w : World) (R : Ending → World → Prop) (hx : xs.length ≤ 9223372036854775807) (ha : Rd w 1 sl xs.length (xs.map (Value.int .i64)))
    (hR : R (.returned (.bool (decide (∀ x ∈ xs, 1 ≤ x ∧ x ≤ most)))) w) : Calls Try.prog 29 #[.int .i64 most, sl] w R := by
  obtain ⟨a, ca, rfl⟩ := ha.slice
  refine calls_go 4000 okT Try.func29 rfl (rs := [.tmp 4]) rfl Try.ntmps29 (args := [.int .i64 most, .slice a xs.length ca]) ?_
  simp (config := { maxSteps := 1000000 }) (disch := first | omega | (simp only [sizeAlloc, sizeDrew, sizeSet, sizePut]; omega) | fail) only [GS1, GS2, GS3, GS4, GS5, GS6, GS7, GS8, GS9, GS10, TT_eq, TTl, Nat.reduceAdd, Nat.reduceMul, Nat.reduceSub, Nat.reduceDiv, Nat.reduceMod, Nat.reducePow, Nat.reduceEqDiff, ↓reduceIte, reduceCtorEq, true_and, and_true, and_self, false_and, and_false, Int.reduceToNat, Int.reduceAdd, Int.reduceSub, Int.reduceMul, cond_true, cond_false, List.toList_toArray, Option.map_some, Option.map_none, Option.some.injEq, List.cons_append, List.nil_append]
  refine hold_loop okT (rs := [.tmp 4]) rfl [9] [4, 6, 10, 11, 12, 13, 14, 15, 16, 17, 18, 19, 20] (fun vs w' => ∃ k : Nat, k ≤ xs.length ∧ vs = [.int .i64 k] ∧ w' = w ∧ ∀ x ∈ xs.take k, 1 ≤ x ∧ x ≤ most) (fun vs _ => match vs with | [.int _ i] => xs.length - i.toNat | _ => 0) (by kernel_rfl) ⟨0, by omega, rfl, rfl, by simp⟩ ?_
  rintro vs w' J ⟨k, hk, rfl, rfl, ht⟩
  by_cases hlt : k < xs.length
  · obtain ⟨b1, o1, c1, e1, _, g1⟩ := ha.at (by omega) (by omega)
    have f1 := g1 k _ (getI hlt)
    rw [Value.slice.injEq] at e1
    obtain ⟨rfl, -, -⟩ := e1
    have hT := List.take_succ_eq_append_getElem hlt
    by_cases h1 : xs[k] < 1
    · simp (config := { maxSteps := 1000000 }) (disch := first | omega | (simp only [sizeAlloc, sizeDrew, sizeSet, sizePut]; omega) | fail) only [GS1, GS2, GS3, GS4, GS5, GS6, GS7, GS8, GS9, GS10, TT_eq, TTl, Nat.reduceAdd, Nat.reduceMul, Nat.reduceSub, Nat.reduceDiv, Nat.reduceMod, Nat.reducePow, Nat.reduceEqDiff, ↓reduceIte, reduceCtorEq, true_and, and_true, and_self, false_and, and_false, Int.reduceToNat, Int.reduceAdd, Int.reduceSub, Int.reduceMul, cond_true, cond_false, List.toList_toArray, Option.map_some, Option.map_none, Option.some.injEq, List.cons_append, List.nil_append, f1]
      rw [decide_eq_false (fun h => by have := h _ (List.getElem_mem hlt); omega)] at hR
      exact hR
    · by_cases h2 : most < xs[k]
      · simp (config := { maxSteps := 1000000 }) (disch := first | omega | (simp only [sizeAlloc, sizeDrew, sizeSet, sizePut]; omega) | fail) only [GS1, GS2, GS3, GS4, GS5, GS6, GS7, GS8, GS9, GS10, TT_eq, TTl, Nat.reduceAdd, Nat.reduceMul, Nat.reduceSub, Nat.reduceDiv, Nat.reduceMod, Nat.reducePow, Nat.reduceEqDiff, ↓reduceIte, reduceCtorEq, true_and, and_true, and_self, false_and, and_false, Int.reduceToNat, Int.reduceAdd, Int.reduceSub, Int.reduceMul, cond_true, cond_false, List.toList_toArray, Option.map_some, Option.map_none, Option.some.injEq, List.cons_append, List.nil_append, f1]
        rw [decide_eq_false (fun h => by have := h _ (List.getElem_mem hlt); omega)] at hR
        exact hR
      · simp (config := { maxSteps := 1000000 }) (disch := first | omega | (simp only [sizeAlloc, sizeDrew, sizeSet, sizePut]; omega) | fail) only [GS1, GS2, GS3, GS4, GS5, GS6, GS7, GS8, GS9, GS10, TT_eq, TTl, Nat.reduceAdd, Nat.reduceMul, Nat.reduceSub, Nat.reduceDiv, Nat.reduceMod, Nat.reducePow, Nat.reduceEqDiff, ↓reduceIte, reduceCtorEq, true_and, and_true, and_self, false_and, and_false, Int.reduceToNat, Int.reduceAdd, Int.reduceSub, Int.reduceMul, cond_true, cond_false, List.toList_toArray, Option.map_some, Option.map_none, Option.some.injEq, List.cons_append, List.nil_append, f1]
        refine ⟨⟨k + 1, by omega, rfl, ?_⟩, by omega⟩
        rw [hT]
        intro x hx
        rcases List.mem_append.1 hx with hx | hx
        · exact ht x hx
        · simp only [List.mem_singleton] at hx; subst hx; omega
  · have e : k = xs.length := by omega
    subst e
    simp (config := { maxSteps := 1000000 }) (disch := first | omega | (simp only [sizeAlloc, sizeDrew, sizeSet, sizePut]; omega) | fail) only [GS1, GS2, GS3, GS4, GS5, GS6, GS7, GS8, GS9, GS10, TT_eq, TTl, Nat.reduceAdd, Nat.reduceMul, Nat.reduceSub, Nat.reduceDiv, Nat.reduceMod, Nat.reducePow, Nat.reduceEqDiff, ↓reduceIte, reduceCtorEq, true_and, and_true, and_self, false_and, and_false, Int.reduceToNat, Int.reduceAdd, Int.reduceSub, Int.reduceMul, cond_true, cond_false, List.toList_toArray, Option.map_some, Option.map_none, Option.some.injEq, List.cons_append, List.nil_append]
    rw [List.take_length] at ht
    rw [decide_eq_true ht] at hR
    exact hR
/-- A peer's state: its own epoch, the other's, what it stamped last; the window. -/
structure PS where
  own : Int
  known : Int
  sent : Int
  t : Int
  v : Nat
structure POk (s : PS) : Prop where
  own : 1 ≤ s.own ∧ s.own ≤ 255
  known : 1 ≤ s.known ∧ s.known ≤ 255
  sent : 0 ≤ s.sent ∧ s.sent ≤ 65535
  win : WOk (s.t, s.v)
def isPeer (w : World) (pb wb : Nat) (s : PS) : Prop :=
  pb ≠ wb ∧ w.heap[pb]? = some (.cells #[.pointer (some ⟨wb, 0, none⟩), .int .i64 s.own, .int .i64 s.known, .int .i64 s.sent] 62 (0, 0)) ∧ isWin w wb s.t s.v
theorem isPeer.mod {S : List Nat} {w w' : World} {pb wb : Nat} {s : PS} (h : isPeer w pb wb s) (hm : Mod S w w') (h1 : pb ∉ S) (h2 : wb ∉ S) : isPeer w' pb wb s := ⟨h.1, hm.get h.2.1 h1, hm.get h.2.2 h2⟩
theorem Own_cps (pb wb : Nat) (s : PS) (w : World) (R : Ending → World → Prop) (h : isPeer w pb wb s) (hR : R (.returned (.int .i64 s.own)) w) : Calls Try.prog 15 #[.pointer (some ⟨pb, 0, none⟩)] w R := by
  have c := cellOf (o := 1) h.2.1
  refine calls_go 4000 okT Try.func15 rfl (rs := [.tmp 2]) rfl Try.ntmps15 (args := [.pointer (some ⟨pb, 0, none⟩)]) ?_
  simp (config := { maxSteps := 1000000 }) (disch := first | omega | (simp only [sizeAlloc, sizeDrew, sizeSet, sizePut]; omega) | fail) only [GS1, GS2, GS3, GS4, GS5, GS6, GS7, GS8, GS9, GS10, TT_eq, TTl, Nat.reduceAdd, Nat.reduceMul, Nat.reduceSub, Nat.reduceDiv, Nat.reduceMod, Nat.reducePow, Nat.reduceEqDiff, ↓reduceIte, reduceCtorEq, true_and, and_true, and_self, false_and, and_false, Int.reduceToNat, Int.reduceAdd, Int.reduceSub, Int.reduceMul, cond_true, cond_false, List.toList_toArray, Option.map_some, Option.map_none, Option.some.injEq, List.cons_append, List.nil_append, c]
  exact hR
theorem Known_cps (pb wb : Nat) (s : PS) (w : World) (R : Ending → World → Prop) (h : isPeer w pb wb s) (hR : R (.returned (.int .i64 s.known)) w) : Calls Try.prog 23 #[.pointer (some ⟨pb, 0, none⟩)] w R := by
  have c := cellOf (o := 2) h.2.1
  refine calls_go 4000 okT Try.func23 rfl (rs := [.tmp 2]) rfl Try.ntmps23 (args := [.pointer (some ⟨pb, 0, none⟩)]) ?_
  simp (config := { maxSteps := 1000000 }) (disch := first | omega | (simp only [sizeAlloc, sizeDrew, sizeSet, sizePut]; omega) | fail) only [GS1, GS2, GS3, GS4, GS5, GS6, GS7, GS8, GS9, GS10, TT_eq, TTl, Nat.reduceAdd, Nat.reduceMul, Nat.reduceSub, Nat.reduceDiv, Nat.reduceMod, Nat.reducePow, Nat.reduceEqDiff, ↓reduceIte, reduceCtorEq, true_and, and_true, and_self, false_and, and_false, Int.reduceToNat, Int.reduceAdd, Int.reduceSub, Int.reduceMul, cond_true, cond_false, List.toList_toArray, Option.map_some, Option.map_none, Option.some.injEq, List.cons_append, List.nil_append, c]
  exact hR
def newS (own : Int) : PS := ⟨own, 1, 0, 0, 0⟩
def epochOk (n : Int) : Prop := 1 ≤ n ∧ n ≤ 255
instance (n : Int) : Decidable (epochOk n) := inferInstanceAs (Decidable (_ ∧ _))
theorem PNew_bad (own : Int) (w : World) (R : Ending → World → Prop) (h : ¬ epochOk own) (hR : ∀ w', Mod [] w w' → R (.returned (.tuple #[.pointer none, .int .i64 2])) w') : Calls Try.prog 12 #[.int .i64 own] w R := by
  refine calls_go 4000 okT Try.func12 rfl (rs := [.tmp 2, .tmp 3]) rfl Try.ntmps12 (args := [.int .i64 own]) ?_
  simp (config := { maxSteps := 1000000 }) (disch := first | omega | (simp only [sizeAlloc, sizeDrew, sizeSet, sizePut]; omega) | fail) only [GS1, GS2, GS3, GS4, GS5, GS6, GS7, GS8, GS9, GS10, TT_eq, TTl, Nat.reduceAdd, Nat.reduceMul, Nat.reduceSub, Nat.reduceDiv, Nat.reduceMod, Nat.reducePow, Nat.reduceEqDiff, ↓reduceIte, reduceCtorEq, true_and, and_true, and_self, false_and, and_false, Int.reduceToNat, Int.reduceAdd, Int.reduceSub, Int.reduceMul, cond_true, cond_false, List.toList_toArray, Option.map_some, Option.map_none, Option.some.injEq, List.cons_append, List.nil_append]
  refine ⟨fok29, within_cps 255 _ [own] _ _ (by simp) (Rd.lit rfl) (.inl ⟨_, rfl, hold_ops okT (rs := [.tmp 2, .tmp 3]) rfl ?_⟩)⟩
  rw [decide_eq_false (by simpa [epochOk] using h)]
  simp (config := { maxSteps := 1000000 }) (disch := first | omega | (simp only [sizeAlloc, sizeDrew, sizeSet, sizePut]; omega) | fail) only [GS1, GS2, GS3, GS4, GS5, GS6, GS7, GS8, GS9, GS10, TT_eq, TTl, Nat.reduceAdd, Nat.reduceMul, Nat.reduceSub, Nat.reduceDiv, Nat.reduceMod, Nat.reducePow, Nat.reduceEqDiff, ↓reduceIte, reduceCtorEq, true_and, and_true, and_self, false_and, and_false, Int.reduceToNat, Int.reduceAdd, Int.reduceSub, Int.reduceMul, cond_true, cond_false, List.toList_toArray, Option.map_some, Option.map_none, Option.some.injEq, List.cons_append, List.nil_append]
  exact hR _ ((Mod.refl _ _).alloc _)
set_option maxHeartbeats 1000000 in
theorem PNew_ok (own : Int) (w : World) (R : Ending → World → Prop) (h : epochOk own) (hR : ∀ w' pb wb, w.heap.size ≤ pb → w.heap.size ≤ wb → isPeer w' pb wb (newS own) → Mod [] w w' → R (.returned (.tuple #[.pointer (some ⟨pb, 0, none⟩), .int .i64 0])) w') : Calls Try.prog 12 #[.int .i64 own] w R := by
  refine calls_go 4000 okT Try.func12 rfl (rs := [.tmp 2, .tmp 3]) rfl Try.ntmps12 (args := [.int .i64 own]) ?_
  simp (config := { maxSteps := 1000000 }) (disch := first | omega | (simp only [sizeAlloc, sizeDrew, sizeSet, sizePut]; omega) | fail) only [GS1, GS2, GS3, GS4, GS5, GS6, GS7, GS8, GS9, GS10, TT_eq, TTl, Nat.reduceAdd, Nat.reduceMul, Nat.reduceSub, Nat.reduceDiv, Nat.reduceMod, Nat.reducePow, Nat.reduceEqDiff, ↓reduceIte, reduceCtorEq, true_and, and_true, and_self, false_and, and_false, Int.reduceToNat, Int.reduceAdd, Int.reduceSub, Int.reduceMul, cond_true, cond_false, List.toList_toArray, Option.map_some, Option.map_none, Option.some.injEq, List.cons_append, List.nil_append]
  refine ⟨fok29, within_cps 255 _ [own] _ _ (by simp) (Rd.lit rfl) (.inl ⟨_, rfl, hold_ops okT (rs := [.tmp 2, .tmp 3]) rfl ?_⟩)⟩
  rw [decide_eq_true (by simpa [epochOk] using h)]
  simp (config := { maxSteps := 1000000 }) (disch := first | omega | (simp only [sizeAlloc, sizeDrew, sizeSet, sizePut]; omega) | fail) only [GS1, GS2, GS3, GS4, GS5, GS6, GS7, GS8, GS9, GS10, TT_eq, TTl, Nat.reduceAdd, Nat.reduceMul, Nat.reduceSub, Nat.reduceDiv, Nat.reduceMod, Nat.reducePow, Nat.reduceEqDiff, ↓reduceIte, reduceCtorEq, true_and, and_true, and_self, false_and, and_false, Int.reduceToNat, Int.reduceAdd, Int.reduceSub, Int.reduceMul, cond_true, cond_false, List.toList_toArray, Option.map_some, Option.map_none, Option.some.injEq, List.cons_append, List.nil_append]
  refine ⟨fok8, New_cps _ _ fun hw => .inl ⟨_, rfl, hold_ops okT (rs := [.tmp 2, .tmp 3]) rfl ?_⟩⟩
  simp (config := { maxSteps := 1000000 }) (disch := first | omega | (simp only [sizeAlloc, sizeDrew, sizeSet, sizePut]; omega) | fail) only [GS1, GS2, GS3, GS4, GS5, GS6, GS7, GS8, GS9, GS10, TT_eq, TTl, Nat.reduceAdd, Nat.reduceMul, Nat.reduceSub, Nat.reduceDiv, Nat.reduceMod, Nat.reducePow, Nat.reduceEqDiff, ↓reduceIte, reduceCtorEq, true_and, and_true, and_self, false_and, and_false, Int.reduceToNat, Int.reduceAdd, Int.reduceSub, Int.reduceMul, cond_true, cond_false, List.toList_toArray, Option.map_some, Option.map_none, Option.some.injEq, List.cons_append, List.nil_append]
  rw [sizeAlloc] at hw
  exact hR _ _ (w.heap.size + 1) (by omega) (by omega) ⟨by simp, heapAe (by simp), heapAlloc hw⟩ ((((Mod.refl _ _).alloc _).alloc _).alloc _)
/-- A stamp. -/
def stampS (s : PS) : PS := if s.sent = 65535 then s else { s with sent := s.sent + 1 }
def stampA (s : PS) : Value := if s.sent = 65535 then .tuple #[.int .i64 0, .int .i64 0, .int .i64 0, .int .i64 4] else .tuple #[.int .i64 s.own, .int .i64 s.known, .int .i64 (s.sent + 1), .int .i64 0]
set_option maxRecDepth 20000 in
set_option maxHeartbeats 1000000 in
theorem Stamp_cps (pb wb : Nat) (s : PS) (w : World) (R : Ending → World → Prop) (hs : POk s) (h : isPeer w pb wb s) (hR : ∀ w', isPeer w' pb wb (stampS s) → Mod [pb] w w' → R (.returned (stampA s)) w') : Calls Try.prog 16 #[.pointer (some ⟨pb, 0, none⟩)] w R := by
  have c3 := cellOf (o := 3) h.2.1
  have f3 := frozenOf (o := 3) h.2.1
  have hb := hs.sent
  by_cases h1 : s.sent = 65535
  · refine calls_go 4000 okT Try.func16 rfl (rs := [.tmp 2, .tmp 3, .tmp 4, .tmp 5]) rfl Try.ntmps16 (args := [.pointer (some ⟨pb, 0, none⟩)]) ?_
    simp (config := { maxSteps := 1000000 }) (disch := first | omega | (simp only [sizeAlloc, sizeDrew, sizeSet, sizePut]; omega) | fail) only [GS1, GS2, GS3, GS4, GS5, GS6, GS7, GS8, GS9, GS10, TT_eq, TTl, Nat.reduceAdd, Nat.reduceMul, Nat.reduceSub, Nat.reduceDiv, Nat.reduceMod, Nat.reducePow, Nat.reduceEqDiff, ↓reduceIte, reduceCtorEq, true_and, and_true, and_self, false_and, and_false, Int.reduceToNat, Int.reduceAdd, Int.reduceSub, Int.reduceMul, cond_true, cond_false, List.toList_toArray, Option.map_some, Option.map_none, Option.some.injEq, List.cons_append, List.nil_append, c3]
    unfold stampA stampS at hR
    rw [if_pos h1, if_pos h1] at hR
    exact hR _ h (Mod.refl _ _)
  · refine calls_go 4000 okT Try.func16 rfl (rs := [.tmp 2, .tmp 3, .tmp 4, .tmp 5]) rfl Try.ntmps16 (args := [.pointer (some ⟨pb, 0, none⟩)]) ?_
    have c1 := cellOf (o := 1) h.2.1; have c2 := cellOf (o := 2) h.2.1
    simp (config := { maxSteps := 1000000 }) (disch := first | omega | (simp only [sizeAlloc, sizeDrew, sizeSet, sizePut]; omega) | fail) only [GS1, GS2, GS3, GS4, GS5, GS6, GS7, GS8, GS9, GS10, TT_eq, TTl, Nat.reduceAdd, Nat.reduceMul, Nat.reduceSub, Nat.reduceDiv, Nat.reduceMod, Nat.reducePow, Nat.reduceEqDiff, ↓reduceIte, reduceCtorEq, true_and, and_true, and_self, false_and, and_false, Int.reduceToNat, Int.reduceAdd, Int.reduceSub, Int.reduceMul, cond_true, cond_false, List.toList_toArray, Option.map_some, Option.map_none, Option.some.injEq, List.cons_append, List.nil_append, c1, c2, c3, f3]
    unfold stampA stampS at hR
    rw [if_neg h1, if_neg h1] at hR
    refine ⟨by kernel_rfl, fun m => hR _ ⟨h.1, heapSet h.2.1, heapSetNe h.2.2 (Ne.symm h.1)⟩ (((Mod.refl _ _).set (.inl (by simp)) _).drewN m)⟩
/-- What it hears of the other's life. -/
def hearS (s : PS) (from_ : Int) : PS := if s.known < from_ then { s with known := from_, t := 0, v := 0 } else s
def hearC (s : PS) (from_ : Int) : Int := if ¬ epochOk from_ then 2 else if from_ < s.known then 180 else 0
theorem hear1_cps (w : World) (R : Ending → World → Prop) (hR : R (.returned (.int .i64 0)) w) : Calls Try.prog 31 #[] w R := by
  refine calls_go 4000 okT Try.func31 rfl (rs := [.tmp 0]) rfl Try.ntmps31 (args := []) ?_
  simp (config := { maxSteps := 1000000 }) (disch := first | omega | (simp only [sizeAlloc, sizeDrew, sizeSet, sizePut]; omega) | fail) only [GS1, GS2, GS3, GS4, GS5, GS6, GS7, GS8, GS9, GS10, TT_eq, TTl, Nat.reduceAdd, Nat.reduceMul, Nat.reduceSub, Nat.reduceDiv, Nat.reduceMod, Nat.reducePow, Nat.reduceEqDiff, ↓reduceIte, reduceCtorEq, true_and, and_true, and_self, false_and, and_false, Int.reduceToNat, Int.reduceAdd, Int.reduceSub, Int.reduceMul, cond_true, cond_false, List.toList_toArray, Option.map_some, Option.map_none, Option.some.injEq, List.cons_append, List.nil_append]
  exact hR
set_option maxRecDepth 20000 in
set_option maxHeartbeats 1000000 in
theorem heardH_old (pb wb : Nat) (s : PS) (n : Int) (w : World) (R : Ending → World → Prop) (h : isPeer w pb wb s) (hn : n < s.known) (fv : Value) (hR : R (.returned (.int .i64 180)) w) :
    Calls Try.prog 30 #[.pointer (some ⟨pb, 0, none⟩), .int .i64 n, fv] w R := by
  have c2 := cellOf (o := 2) h.2.1
  refine calls_go 4000 okT Try.func30 rfl (rs := [.tmp 6]) rfl Try.ntmps30 (args := [.pointer (some ⟨pb, 0, none⟩), .int .i64 n, fv]) ?_
  simp (config := { maxSteps := 1000000 }) (disch := first | omega | (simp only [sizeAlloc, sizeDrew, sizeSet, sizePut]; omega) | fail) only [GS1, GS2, GS3, GS4, GS5, GS6, GS7, GS8, GS9, GS10, TT_eq, TTl, Nat.reduceAdd, Nat.reduceMul, Nat.reduceSub, Nat.reduceDiv, Nat.reduceMod, Nat.reducePow, Nat.reduceEqDiff, ↓reduceIte, reduceCtorEq, true_and, and_true, and_self, false_and, and_false, Int.reduceToNat, Int.reduceAdd, Int.reduceSub, Int.reduceMul, cond_true, cond_false, List.toList_toArray, Option.map_some, Option.map_none, Option.some.injEq, List.cons_append, List.nil_append, c2]
  exact hR
set_option maxRecDepth 20000 in
set_option maxHeartbeats 1000000 in
theorem heard_on (pb wb : Nat) (s : PS) (n : Int) (w : World) (R : Ending → World → Prop) (h : isPeer w pb wb s) (hn : ¬ n < s.known) (f : Nat) (cap : Array Value) (hf : FOk Try.prog f)
    (hR : ∀ w' wb', (wb' = wb ∨ w.heap.size ≤ wb') → isPeer w' pb wb' (hearS s n) → Mod [pb] w w' → Calls Try.prog f ((#[] : Array Value).toList ++ [] ++ cap.toList).toArray w' (fun e w'' => ∃ v, e = .returned v ∧ R (.returned v) w'')) :
    Calls Try.prog 30 #[.pointer (some ⟨pb, 0, none⟩), .int .i64 n, .func (.func f) #[] cap] w R := by
  have c2 := cellOf (o := 2) h.2.1
  by_cases h1 : s.known < n
  · refine calls_go 4000 okT Try.func30 rfl (rs := [.tmp 6]) rfl Try.ntmps30 (args := [.pointer (some ⟨pb, 0, none⟩), .int .i64 n, .func (.func f) #[] cap]) ?_
    simp (config := { maxSteps := 1000000 }) (disch := first | omega | (simp only [sizeAlloc, sizeDrew, sizeSet, sizePut]; omega) | fail) only [GS1, GS2, GS3, GS4, GS5, GS6, GS7, GS8, GS9, GS10, TT_eq, TTl, Nat.reduceAdd, Nat.reduceMul, Nat.reduceSub, Nat.reduceDiv, Nat.reduceMod, Nat.reducePow, Nat.reduceEqDiff, ↓reduceIte, reduceCtorEq, true_and, and_true, and_self, false_and, and_false, Int.reduceToNat, Int.reduceAdd, Int.reduceSub, Int.reduceMul, cond_true, cond_false, List.toList_toArray, Option.map_some, Option.map_none, Option.some.injEq, List.cons_append, List.nil_append, c2]
    refine ⟨fok8, New_cps _ _ fun hw => .inl ⟨_, rfl, hold_ops okT (rs := [.tmp 6]) rfl ?_⟩⟩
    have hp : pb < w.heap.size := ltOf h.2.1
    have k0 : (w.alloc (.cells #[.int .i64 0, .int .u64 0] 59)).heap[pb]? = _ := heapAlloc h.2.1
    have d0 := cellOf (o := 0) k0; have d2 := cellOf (o := 2) k0; have e0 := frozenOf (o := 0) k0; have e2 := frozenOf (o := 2) k0
    have hM0 : Mod [pb] w (w.alloc (.cells #[.int .i64 0, .int .u64 0] 59)) := (Mod.refl _ _).alloc _
    generalize hwb : w.heap.size = wb' at hw ⊢
    generalize w.alloc (.cells #[.int .i64 0, .int .u64 0] 59) = w1 at hw k0 d0 d2 e0 e2 hM0 ⊢
    simp (config := { maxSteps := 1000000 }) (disch := first | omega | (simp only [sizeAlloc, sizeDrew, sizeSet, sizePut]; omega) | fail) only [GS1, GS2, GS3, GS4, GS5, GS6, GS7, GS8, GS9, GS10, TT_eq, TTl, Nat.reduceAdd, Nat.reduceMul, Nat.reduceSub, Nat.reduceDiv, Nat.reduceMod, Nat.reducePow, Nat.reduceEqDiff, ↓reduceIte, reduceCtorEq, true_and, and_true, and_self, false_and, and_false, Int.reduceToNat, Int.reduceAdd, Int.reduceSub, Int.reduceMul, cond_true, cond_false, List.toList_toArray, Option.map_some, Option.map_none, Option.some.injEq, List.cons_append, List.nil_append, d0, d2, e0, e2]
    have hne : pb ≠ wb' := by omega
    refine ⟨hf, (hR _ wb' (.inr (by omega)) ?_ ?_).mono ?_⟩
    · unfold hearS; rw [if_pos h1]
      exact ⟨hne, heapSet (heapSet k0), heapSetNe (heapSetNe hw (Ne.symm hne)) (Ne.symm hne)⟩
    · exact (hM0.set (.inl (by simp)) _).set (.inl (by simp)) _
    · rintro e w'' ⟨v, rfl, hv⟩
      refine .inl ⟨v, rfl, hold_ops okT (rs := [.tmp 6]) rfl ?_⟩
      simp (config := { maxSteps := 1000000 }) (disch := first | omega | (simp only [sizeAlloc, sizeDrew, sizeSet, sizePut]; omega) | fail) only [GS1, GS2, GS3, GS4, GS5, GS6, GS7, GS8, GS9, GS10, TT_eq, TTl, Nat.reduceAdd, Nat.reduceMul, Nat.reduceSub, Nat.reduceDiv, Nat.reduceMod, Nat.reducePow, Nat.reduceEqDiff, ↓reduceIte, reduceCtorEq, true_and, and_true, and_self, false_and, and_false, Int.reduceToNat, Int.reduceAdd, Int.reduceSub, Int.reduceMul, cond_true, cond_false, List.toList_toArray, Option.map_some, Option.map_none, Option.some.injEq, List.cons_append, List.nil_append]
      exact hv
  · refine calls_go 4000 okT Try.func30 rfl (rs := [.tmp 6]) rfl Try.ntmps30 (args := [.pointer (some ⟨pb, 0, none⟩), .int .i64 n, .func (.func f) #[] cap]) ?_
    simp (config := { maxSteps := 1000000 }) (disch := first | omega | (simp only [sizeAlloc, sizeDrew, sizeSet, sizePut]; omega) | fail) only [GS1, GS2, GS3, GS4, GS5, GS6, GS7, GS8, GS9, GS10, TT_eq, TTl, Nat.reduceAdd, Nat.reduceMul, Nat.reduceSub, Nat.reduceDiv, Nat.reduceMod, Nat.reducePow, Nat.reduceEqDiff, ↓reduceIte, reduceCtorEq, true_and, and_true, and_self, false_and, and_false, Int.reduceToNat, Int.reduceAdd, Int.reduceSub, Int.reduceMul, cond_true, cond_false, List.toList_toArray, Option.map_some, Option.map_none, Option.some.injEq, List.cons_append, List.nil_append, c2]
    refine ⟨hf, (hR _ wb (.inl rfl) ?_ (Mod.refl _ _)).mono ?_⟩
    · unfold hearS; rw [if_neg h1]; exact h
    · rintro e w'' ⟨v, rfl, hv⟩
      refine .inl ⟨v, rfl, hold_ops okT (rs := [.tmp 6]) rfl ?_⟩
      simp (config := { maxSteps := 1000000 }) (disch := first | omega | (simp only [sizeAlloc, sizeDrew, sizeSet, sizePut]; omega) | fail) only [GS1, GS2, GS3, GS4, GS5, GS6, GS7, GS8, GS9, GS10, TT_eq, TTl, Nat.reduceAdd, Nat.reduceMul, Nat.reduceSub, Nat.reduceDiv, Nat.reduceMod, Nat.reducePow, Nat.reduceEqDiff, ↓reduceIte, reduceCtorEq, true_and, and_true, and_self, false_and, and_false, Int.reduceToNat, Int.reduceAdd, Int.reduceSub, Int.reduceMul, cond_true, cond_false, List.toList_toArray, Option.map_some, Option.map_none, Option.some.injEq, List.cons_append, List.nil_append]
      exact hv
set_option maxRecDepth 20000 in
set_option maxHeartbeats 1000000 in
/-- A hello is heard. -/
theorem Hear_cps (pb wb : Nat) (s : PS) (n : Int) (w : World) (R : Ending → World → Prop) (h : isPeer w pb wb s)
    (h1 : hearC s n ≠ 0 → ∀ w', Mod [] w w' → R (.returned (.int .i64 (hearC s n))) w')
    (h2 : hearC s n = 0 → ∀ w' wb', (wb' = wb ∨ w.heap.size ≤ wb') → isPeer w' pb wb' (hearS s n) → Mod [pb] w w' → R (.returned (.int .i64 0)) w') :
    Calls Try.prog 13 #[.pointer (some ⟨pb, 0, none⟩), .int .i64 n] w R := by
  by_cases he : epochOk n
  · refine calls_go 4000 okT Try.func13 rfl (rs := [.tmp 4]) rfl Try.ntmps13 (args := [.pointer (some ⟨pb, 0, none⟩), .int .i64 n]) ?_
    simp (config := { maxSteps := 1000000 }) (disch := first | omega | (simp only [sizeAlloc, sizeDrew, sizeSet, sizePut]; omega) | fail) only [GS1, GS2, GS3, GS4, GS5, GS6, GS7, GS8, GS9, GS10, TT_eq, TTl, Nat.reduceAdd, Nat.reduceMul, Nat.reduceSub, Nat.reduceDiv, Nat.reduceMod, Nat.reducePow, Nat.reduceEqDiff, ↓reduceIte, reduceCtorEq, true_and, and_true, and_self, false_and, and_false, Int.reduceToNat, Int.reduceAdd, Int.reduceSub, Int.reduceMul, cond_true, cond_false, List.toList_toArray, Option.map_some, Option.map_none, Option.some.injEq, List.cons_append, List.nil_append]
    refine ⟨fok29, within_cps 255 _ [n] _ _ (by simp) (Rd.lit rfl) (.inl ⟨_, rfl, hold_ops okT (rs := [.tmp 4]) rfl ?_⟩)⟩
    rw [decide_eq_true (by simpa [epochOk] using he)]
    simp (config := { maxSteps := 1000000 }) (disch := first | omega | (simp only [sizeAlloc, sizeDrew, sizeSet, sizePut]; omega) | fail) only [GS1, GS2, GS3, GS4, GS5, GS6, GS7, GS8, GS9, GS10, TT_eq, TTl, Nat.reduceAdd, Nat.reduceMul, Nat.reduceSub, Nat.reduceDiv, Nat.reduceMod, Nat.reducePow, Nat.reduceEqDiff, ↓reduceIte, reduceCtorEq, true_and, and_true, and_self, false_and, and_false, Int.reduceToNat, Int.reduceAdd, Int.reduceSub, Int.reduceMul, cond_true, cond_false, List.toList_toArray, Option.map_some, Option.map_none, Option.some.injEq, List.cons_append, List.nil_append]
    have hp := ltOf h.2.1; have hq := ltOf h.2.2
    have k := h.mod ((Mod.refl [] w).alloc (.cells #[.int .i64 n] 3)) (by simp) (by simp)
    by_cases hk : n < s.known
    · refine ⟨fok30, heardH_old pb wb s n _ _ k hk _ (.inl ⟨_, rfl, hold_ops okT (rs := [.tmp 4]) rfl ?_⟩)⟩
      have hc : hearC s n = 180 := by unfold hearC; rw [if_neg (by simpa using he), if_pos hk]
      rw [hc] at h1
      simp (config := { maxSteps := 1000000 }) (disch := first | omega | (simp only [sizeAlloc, sizeDrew, sizeSet, sizePut]; omega) | fail) only [GS1, GS2, GS3, GS4, GS5, GS6, GS7, GS8, GS9, GS10, TT_eq, TTl, Nat.reduceAdd, Nat.reduceMul, Nat.reduceSub, Nat.reduceDiv, Nat.reduceMod, Nat.reducePow, Nat.reduceEqDiff, ↓reduceIte, reduceCtorEq, true_and, and_true, and_self, false_and, and_false, Int.reduceToNat, Int.reduceAdd, Int.reduceSub, Int.reduceMul, cond_true, cond_false, List.toList_toArray, Option.map_some, Option.map_none, Option.some.injEq, List.cons_append, List.nil_append]
      exact h1 (by omega) _ ((Mod.refl _ _).alloc _)
    · refine ⟨fok30, heard_on pb wb s n _ _ k hk _ _ fok31 fun w2 wb2 hwb h2' hM => hear1_cps _ _ ⟨_, rfl, .inl ⟨_, rfl, hold_ops okT (rs := [.tmp 4]) rfl ?_⟩⟩⟩
      have hc : hearC s n = 0 := by unfold hearC; rw [if_neg (by simpa using he), if_neg hk]
      simp (config := { maxSteps := 1000000 }) (disch := first | omega | (simp only [sizeAlloc, sizeDrew, sizeSet, sizePut]; omega) | fail) only [GS1, GS2, GS3, GS4, GS5, GS6, GS7, GS8, GS9, GS10, TT_eq, TTl, Nat.reduceAdd, Nat.reduceMul, Nat.reduceSub, Nat.reduceDiv, Nat.reduceMod, Nat.reducePow, Nat.reduceEqDiff, ↓reduceIte, reduceCtorEq, true_and, and_true, and_self, false_and, and_false, Int.reduceToNat, Int.reduceAdd, Int.reduceSub, Int.reduceMul, cond_true, cond_false, List.toList_toArray, Option.map_some, Option.map_none, Option.some.injEq, List.cons_append, List.nil_append]
      rw [sizeAlloc] at hwb
      exact h2 hc _ wb2 (by omega) h2' ((((Mod.refl [pb] w).alloc _).trans hM (by simp)))
  · have hc : hearC s n = 2 := by unfold hearC; rw [if_pos he]
    rw [hc] at h1
    refine calls_go 4000 okT Try.func13 rfl (rs := [.tmp 4]) rfl Try.ntmps13 (args := [.pointer (some ⟨pb, 0, none⟩), .int .i64 n]) ?_
    simp (config := { maxSteps := 1000000 }) (disch := first | omega | (simp only [sizeAlloc, sizeDrew, sizeSet, sizePut]; omega) | fail) only [GS1, GS2, GS3, GS4, GS5, GS6, GS7, GS8, GS9, GS10, TT_eq, TTl, Nat.reduceAdd, Nat.reduceMul, Nat.reduceSub, Nat.reduceDiv, Nat.reduceMod, Nat.reducePow, Nat.reduceEqDiff, ↓reduceIte, reduceCtorEq, true_and, and_true, and_self, false_and, and_false, Int.reduceToNat, Int.reduceAdd, Int.reduceSub, Int.reduceMul, cond_true, cond_false, List.toList_toArray, Option.map_some, Option.map_none, Option.some.injEq, List.cons_append, List.nil_append]
    refine ⟨fok29, within_cps 255 _ [n] _ _ (by simp) (Rd.lit rfl) (.inl ⟨_, rfl, hold_ops okT (rs := [.tmp 4]) rfl ?_⟩)⟩
    rw [decide_eq_false (by simpa [epochOk] using he)]
    simp (config := { maxSteps := 1000000 }) (disch := first | omega | (simp only [sizeAlloc, sizeDrew, sizeSet, sizePut]; omega) | fail) only [GS1, GS2, GS3, GS4, GS5, GS6, GS7, GS8, GS9, GS10, TT_eq, TTl, Nat.reduceAdd, Nat.reduceMul, Nat.reduceSub, Nat.reduceDiv, Nat.reduceMod, Nat.reducePow, Nat.reduceEqDiff, ↓reduceIte, reduceCtorEq, true_and, and_true, and_self, false_and, and_false, Int.reduceToNat, Int.reduceAdd, Int.reduceSub, Int.reduceMul, cond_true, cond_false, List.toList_toArray, Option.map_some, Option.map_none, Option.some.injEq, List.cons_append, List.nil_append]
    exact h1 (by omega) _ ((Mod.refl _ _).alloc _)
end Go.Proofs.Ytechabbdobbooaa
