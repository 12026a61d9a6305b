/-
  Names (walks).
-/
import Derived.Test.YticoollhaachfaaNam1
import Derived.Lib.IndexAny
set_option linter.unusedSimpArgs false
set_option linter.unusedVariables false
namespace Go.Proofs.Yticoollhaachfaa
open Go Go.Wk Go.RowKit
attribute [local irreducible] go Hold
def AB : List UInt8 := [97, 98, 99, 100, 101, 102, 103, 104, 105, 106, 107, 108, 109, 110, 111, 112, 113, 114, 115, 116, 117, 118, 119, 120, 121, 122, 48, 49, 50, 51, 52, 53, 54, 55, 56, 57, 47, 46, 45]
/-- A byte that a name may hold. -/
def okB (b : UInt8) : Bool := (decide (97 ≤ b.toNat) && decide (b.toNat ≤ 122)) || (decide (48 ≤ b.toNat) && decide (b.toNat ≤ 57)) || decide (b.toNat = 47) || decide (b.toNat = 46) || decide (b.toNat = 45)
def nameS (s : List UInt8) : Bool := s.all okB && !s.isEmpty
theorem okB_iff {b : UInt8} : okB b = true ↔ ((97 ≤ b.toNat ∧ b.toNat ≤ 122) ∨ (48 ≤ b.toNat ∧ b.toNat ≤ 57) ∨ b.toNat = 47 ∨ b.toNat = 46 ∨ b.toNat = 45) := by
  simp [okB, or_assoc]
set_option maxRecDepth 100000 in
theorem ab_ok (b : UInt8) : AB.contains b = okB b := by
  have h : ∀ x : Fin 256, AB.contains (UInt8.ofNat x.val) = okB (UInt8.ofNat x.val) := by decide
  have := h ⟨b.toNat, b.toNat_lt⟩
  simpa using this
/-- A rune that a name may hold. -/
def okR (r : Nat) : Bool := decide (r < 128) && okB (UInt8.ofNat r)
theorem cRune_cps (r : Nat) (hr : Utf8.valid r = true) (w : World) (R : Ending → World → Prop) (hR : ∀ w', Mod [] w w' → R (.returned (.bool (okR r))) w') :
    Calls Try.prog 56 #[.string ⟨AB.toArray⟩, .int .i32 r] w R := by
  have hA : ∀ b ∈ AB, b.toNat < 128 := by decide
  have hi : okR r = decide (0 ≤ ixR AB r) := by
    unfold okR ixR
    by_cases h : r < 128
    · rw [if_pos h, ← Lib.contains_iff_indexByte, ab_ok]; simp [h]
    · rw [if_neg h]; simp [h]
  rw [hi] at hR
  generalize hx : ixR AB r = x at hR
  refine calls_go 4000 okT Try.func56 rfl (rs := [.tmp 4]) rfl Try.ntmps56 (args := [.string ⟨AB.toArray⟩, .int .i32 r]) ?_
  simp (config := { maxSteps := 1000000 }) (disch := first | omega | (simp only [sizeAlloc, sizeDrew, sizeSet, sizePut] <;> omega) | fail) only [GS1, GS2, GS3, GS4, GS5, GS6, GS7, GS8, GS9, GS10, GS11, TT_eq, TTl, Nat.reduceAdd, Nat.reduceMul, Nat.reduceSub, Nat.reduceDiv, Nat.reduceMod, Nat.reducePow, Nat.reduceEqDiff, ↓reduceIte, reduceCtorEq, true_and, and_true, and_self, false_and, and_false, Int.reduceToNat, Int.reduceAdd, Int.reduceSub, Int.reduceMul, cond_true, cond_false, List.toList_toArray, Option.map_some, Option.map_none, Option.some.injEq, List.cons_append, List.nil_append, List.length_cons, List.length_nil, List.getD_cons_zero, List.getD_cons_succ]
  refine ⟨fok78, sIndexRune_cps AB hA (by decide) (by decide) r hr _ _ fun w1 hM => .inl ⟨_, rfl, hold_ops okT (rs := [.tmp 4]) rfl ?_⟩⟩
  rw [hx]
  by_cases h0 : 0 ≤ x
  · have hb : decide (0 ≤ x) = true := by simp [h0]
    rw [hb] at hR
    simp (config := { maxSteps := 1000000 }) (disch := first | omega | (simp only [sizeAlloc, sizeDrew, sizeSet, sizePut] <;> omega) | fail) only [GS1, GS2, GS3, GS4, GS5, GS6, GS7, GS8, GS9, GS10, GS11, TT_eq, TTl, Nat.reduceAdd, Nat.reduceMul, Nat.reduceSub, Nat.reduceDiv, Nat.reduceMod, Nat.reducePow, Nat.reduceEqDiff, ↓reduceIte, reduceCtorEq, true_and, and_true, and_self, false_and, and_false, Int.reduceToNat, Int.reduceAdd, Int.reduceSub, Int.reduceMul, cond_true, cond_false, List.toList_toArray, Option.map_some, Option.map_none, Option.some.injEq, List.cons_append, List.nil_append, List.length_cons, List.length_nil, List.getD_cons_zero, List.getD_cons_succ]
    exact hR _ hM
  · have hb : decide (0 ≤ x) = false := by simp [h0]
    rw [hb] at hR
    simp (config := { maxSteps := 1000000 }) (disch := first | omega | (simp only [sizeAlloc, sizeDrew, sizeSet, sizePut] <;> omega) | fail) only [GS1, GS2, GS3, GS4, GS5, GS6, GS7, GS8, GS9, GS10, GS11, TT_eq, TTl, Nat.reduceAdd, Nat.reduceMul, Nat.reduceSub, Nat.reduceDiv, Nat.reduceMod, Nat.reducePow, Nat.reduceEqDiff, ↓reduceIte, reduceCtorEq, true_and, and_true, and_self, false_and, and_false, Int.reduceToNat, Int.reduceAdd, Int.reduceSub, Int.reduceMul, cond_true, cond_false, List.toList_toArray, Option.map_some, Option.map_none, Option.some.injEq, List.cons_append, List.nil_append, List.length_cons, List.length_nil, List.getD_cons_zero, List.getD_cons_succ]
    exact hR _ hM
set_option maxRecDepth 20000 in
set_option maxHeartbeats 4000000 in
theorem tNamed_cps (s : List UInt8) (hs : s.length ≤ maxLen) (w : World) (R : Ending → World → Prop) (hR : ∀ w', Mod [] w w' → R (.returned (.bool (nameS s))) w') :
    Calls Try.prog 34 #[.string ⟨s.toArray⟩] w R := by
  unfold maxLen at hs
  refine calls_go 4000 okT Try.func34 rfl (rs := [.tmp 2]) rfl Try.ntmps34 (args := [.string ⟨s.toArray⟩]) ?_
  simp (config := { maxSteps := 1000000 }) (disch := first | omega | (simp only [sizeAlloc, sizeDrew, sizeSet, sizePut] <;> omega) | fail) only [GS1, GS2, GS3, GS4, GS5, GS6, GS7, GS8, GS9, GS10, GS11, TT_eq, TTl, Nat.reduceAdd, Nat.reduceMul, Nat.reduceSub, Nat.reduceDiv, Nat.reduceMod, Nat.reducePow, Nat.reduceEqDiff, ↓reduceIte, reduceCtorEq, true_and, and_true, and_self, false_and, and_false, Int.reduceToNat, Int.reduceAdd, Int.reduceSub, Int.reduceMul, cond_true, cond_false, List.toList_toArray, Option.map_some, Option.map_none, Option.some.injEq, List.cons_append, List.nil_append, List.length_cons, List.length_nil, List.getD_cons_zero, List.getD_cons_succ]
  refine hold_range okT rfl rfl rfl (hold_ops okT (rs := [.tmp 2]) rfl ?_)
  simp (config := { maxSteps := 1000000 }) (disch := first | omega | (simp only [sizeAlloc, sizeDrew, sizeSet, sizePut] <;> omega) | fail) only [GS1, GS2, GS3, GS4, GS5, GS6, GS7, GS8, GS9, GS10, GS11, TT_eq, TTl, Nat.reduceAdd, Nat.reduceMul, Nat.reduceSub, Nat.reduceDiv, Nat.reduceMod, Nat.reducePow, Nat.reduceEqDiff, ↓reduceIte, reduceCtorEq, true_and, and_true, and_self, false_and, and_false, Int.reduceToNat, Int.reduceAdd, Int.reduceSub, Int.reduceMul, cond_true, cond_false, List.toList_toArray, Option.map_some, Option.map_none, Option.some.injEq, List.cons_append, List.nil_append, List.length_cons, List.length_nil, List.getD_cons_zero, List.getD_cons_succ]
  refine hold_loop okT (rs := [.tmp 2]) rfl [] [2, 4, 7, 8, 9, 10, 11, 12] (fun vs w' => vs = [] ∧ ∃ pos : Nat, pos ≤ s.length ∧ (s.take pos).all okB = true ∧ w'.heap[w.heap.size]? = some (.stringIter ⟨s.toArray⟩ pos) ∧ Mod [] w w') (fun _ w' => match w'.heap[w.heap.size]? with | some (.stringIter _ p) => s.length - p | _ => 0) (by kernel_rfl)
    ⟨rfl, 0, by omega, rfl, heapNew, (Mod.refl _ _).alloc _⟩ ?_
  rintro vs w1 J ⟨rfl, pos, hle, hall, hit, hM⟩
  simp (config := { maxSteps := 1000000 }) (disch := first | omega | (simp only [sizeAlloc, sizeDrew, sizeSet, sizePut] <;> omega) | fail) only [GS1, GS2, GS3, GS4, GS5, GS6, GS7, GS8, GS9, GS10, GS11, TT_eq, TTl, Nat.reduceAdd, Nat.reduceMul, Nat.reduceSub, Nat.reduceDiv, Nat.reduceMod, Nat.reducePow, Nat.reduceEqDiff, ↓reduceIte, reduceCtorEq, true_and, and_true, and_self, false_and, and_false, Int.reduceToNat, Int.reduceAdd, Int.reduceSub, Int.reduceMul, cond_true, cond_false, List.toList_toArray, Option.map_some, Option.map_none, Option.some.injEq, List.cons_append, List.nil_append, List.length_cons, List.length_nil, List.getD_cons_zero, List.getD_cons_succ]
  by_cases hp : pos < s.length
  · refine hold_next rfl rfl hit hp ?_
    have hv := decode_val (⟨s.toArray⟩ : ByteArray) pos
    have hxx : ((⟨s.toArray⟩ : ByteArray)[pos]'hp) = s[pos] := rfl
    have hlow : okR (Utf8.decode (⟨s.toArray⟩ : ByteArray) pos).1 = okB s[pos] ∧ (okB s[pos] = true → (Utf8.decode (⟨s.toArray⟩ : ByteArray) pos).2 = 1) := by
      by_cases h128 : s[pos].toNat < 128
      · rw [decode_ascii (⟨s.toArray⟩ : ByteArray) pos hp h128]
        refine ⟨?_, fun _ => rfl⟩
        rw [hxx]
        simp [okR, h128]
      · have hh := decode_high (⟨s.toArray⟩ : ByteArray) pos hp (by rw [hxx]; omega)
        have hb : okB s[pos] = false := by
          rw [← Bool.not_eq_true, okB_iff]; omega
        rw [hb]
        refine ⟨?_, fun h => by simp at h⟩
        simp [okR]; omega
    obtain ⟨hl1, hl2⟩ := hlow
    generalize Utf8.decode (⟨s.toArray⟩ : ByteArray) pos = d at hv hl1 hl2 ⊢
    obtain ⟨x, n⟩ := d
    simp only at hv hl1 hl2
    refine hold_ops okT (rs := [.tmp 2]) rfl ?_
    simp (config := { maxSteps := 1000000 }) (disch := first | omega | (simp only [sizeAlloc, sizeDrew, sizeSet, sizePut] <;> omega) | fail) only [GS1, GS2, GS3, GS4, GS5, GS6, GS7, GS8, GS9, GS10, GS11, TT_eq, TTl, Nat.reduceAdd, Nat.reduceMul, Nat.reduceSub, Nat.reduceDiv, Nat.reduceMod, Nat.reducePow, Nat.reduceEqDiff, ↓reduceIte, reduceCtorEq, true_and, and_true, and_self, false_and, and_false, Int.reduceToNat, Int.reduceAdd, Int.reduceSub, Int.reduceMul, cond_true, cond_false, List.toList_toArray, Option.map_some, Option.map_none, Option.some.injEq, List.cons_append, List.nil_append, List.length_cons, List.length_nil, List.getD_cons_zero, List.getD_cons_succ]
    refine ⟨fok56, cRune_cps x hv _ _ fun w2 hM2 => .inl ⟨_, rfl, hold_ops okT (rs := [.tmp 2]) rfl ?_⟩⟩
    rw [hl1]
    have hM1 := hM.put (l := w.heap.size) (.inr (Nat.le_refl _)) (.stringIter ⟨s.toArray⟩ (pos + n))
    have hit1 : (w1.putObj w.heap.size (.stringIter ⟨s.toArray⟩ (pos + n))).heap[w.heap.size]? = some (.stringIter ⟨s.toArray⟩ (pos + n)) := by
      simp only [World.putObj, Array.getElem?_setIfInBounds]; rw [if_pos trivial, if_pos (ltOf hit)]
    by_cases hb : okB s[pos] = true
    · have hn := hl2 hb
      subst hn
      have hit2 := hM2.get hit1 (by simp)
      rw [hb]
      simp (config := { maxSteps := 1000000 }) (disch := first | omega | (simp only [sizeAlloc, sizeDrew, sizeSet, sizePut] <;> omega) | fail) only [GS1, GS2, GS3, GS4, GS5, GS6, GS7, GS8, GS9, GS10, GS11, TT_eq, TTl, Nat.reduceAdd, Nat.reduceMul, Nat.reduceSub, Nat.reduceDiv, Nat.reduceMod, Nat.reducePow, Nat.reduceEqDiff, ↓reduceIte, reduceCtorEq, true_and, and_true, and_self, false_and, and_false, Int.reduceToNat, Int.reduceAdd, Int.reduceSub, Int.reduceMul, cond_true, cond_false, List.toList_toArray, Option.map_some, Option.map_none, Option.some.injEq, List.cons_append, List.nil_append, List.length_cons, List.length_nil, List.getD_cons_zero, List.getD_cons_succ]
      have hall2 : (s.take (pos + 1)).all okB = true := by
        rw [List.take_succ_eq_append_getElem hp, List.all_append, hall]; simp [hb]
      refine ⟨⟨pos + 1, by omega, hall2, hit2, hM1.trans hM2 (by simp)⟩, ?_⟩
      rw [hit2, hit]
      show s.length - (pos + 1) < s.length - pos
      omega
    · have hb : okB s[pos] = false := Bool.eq_false_iff.2 hb
      rw [hb]
      simp (config := { maxSteps := 1000000 }) (disch := first | omega | (simp only [sizeAlloc, sizeDrew, sizeSet, sizePut] <;> omega) | fail) only [GS1, GS2, GS3, GS4, GS5, GS6, GS7, GS8, GS9, GS10, GS11, TT_eq, TTl, Nat.reduceAdd, Nat.reduceMul, Nat.reduceSub, Nat.reduceDiv, Nat.reduceMod, Nat.reducePow, Nat.reduceEqDiff, ↓reduceIte, reduceCtorEq, true_and, and_true, and_self, false_and, and_false, Int.reduceToNat, Int.reduceAdd, Int.reduceSub, Int.reduceMul, cond_true, cond_false, List.toList_toArray, Option.map_some, Option.map_none, Option.some.injEq, List.cons_append, List.nil_append, List.length_cons, List.length_nil, List.getD_cons_zero, List.getD_cons_succ]
      have hn : nameS s = false := by
        unfold nameS
        have : s.all okB = false := by
          rw [List.all_eq_false]; exact ⟨_, List.getElem_mem hp, by simp [hb]⟩
        rw [this]; rfl
      rw [hn] at hR
      exact hR _ (hM1.trans hM2 (by simp))
  · refine hold_over rfl rfl hit hp ?_
    refine hold_ops okT (rs := [.tmp 2]) rfl ?_
    have e : pos = s.length := by omega
    subst e
    rw [List.take_length] at hall
    unfold nameS at hR
    rw [hall] at hR
    cases s with
    | nil =>
      simp (config := { maxSteps := 1000000 }) (disch := first | omega | (simp only [sizeAlloc, sizeDrew, sizeSet, sizePut] <;> omega) | fail) only [GS1, GS2, GS3, GS4, GS5, GS6, GS7, GS8, GS9, GS10, GS11, TT_eq, TTl, Nat.reduceAdd, Nat.reduceMul, Nat.reduceSub, Nat.reduceDiv, Nat.reduceMod, Nat.reducePow, Nat.reduceEqDiff, ↓reduceIte, reduceCtorEq, true_and, and_true, and_self, false_and, and_false, Int.reduceToNat, Int.reduceAdd, Int.reduceSub, Int.reduceMul, cond_true, cond_false, List.toList_toArray, Option.map_some, Option.map_none, Option.some.injEq, List.cons_append, List.nil_append, List.length_cons, List.length_nil, List.getD_cons_zero, List.getD_cons_succ, eq_self]
      exact hR _ hM
    | cons c r =>
      simp (config := { maxSteps := 1000000 }) (disch := first | omega | (simp only [sizeAlloc, sizeDrew, sizeSet, sizePut] <;> omega) | fail) only [GS1, GS2, GS3, GS4, GS5, GS6, GS7, GS8, GS9, GS10, GS11, TT_eq, TTl, Nat.reduceAdd, Nat.reduceMul, Nat.reduceSub, Nat.reduceDiv, Nat.reduceMod, Nat.reducePow, Nat.reduceEqDiff, ↓reduceIte, reduceCtorEq, true_and, and_true, and_self, false_and, and_false, Int.reduceToNat, Int.reduceAdd, Int.reduceSub, Int.reduceMul, cond_true, cond_false, List.toList_toArray, Option.map_some, Option.map_none, Option.some.injEq, List.cons_append, List.nil_append, List.length_cons, List.length_nil, List.getD_cons_zero, List.getD_cons_succ]
      exact hR _ hM
set_option maxRecDepth 20000 in
set_option maxHeartbeats 4000000 in
theorem rName_cps (s : List UInt8) (hs : s.length ≤ maxLen) (w : World) (R : Ending → World → Prop) (hR : R (.returned (.bool (nameS s))) w) :
    Calls Try.prog 108 #[.string ⟨s.toArray⟩] w R := by
  unfold maxLen at hs
  refine calls_go 4000 okT Try.func108 rfl (rs := [.tmp 2]) rfl Try.ntmps108 (args := [.string ⟨s.toArray⟩]) ?_
  simp (config := { maxSteps := 1000000 }) (disch := first | omega | (simp only [sizeAlloc, sizeDrew, sizeSet, sizePut] <;> omega) | fail) only [GS1, GS2, GS3, GS4, GS5, GS6, GS7, GS8, GS9, GS10, GS11, TT_eq, TTl, Nat.reduceAdd, Nat.reduceMul, Nat.reduceSub, Nat.reduceDiv, Nat.reduceMod, Nat.reducePow, Nat.reduceEqDiff, ↓reduceIte, reduceCtorEq, true_and, and_true, and_self, false_and, and_false, Int.reduceToNat, Int.reduceAdd, Int.reduceSub, Int.reduceMul, cond_true, cond_false, List.toList_toArray, Option.map_some, Option.map_none, Option.some.injEq, List.cons_append, List.nil_append, List.length_cons, List.length_nil, List.getD_cons_zero, List.getD_cons_succ]
  refine hold_loop okT (rs := [.tmp 2]) rfl [3] [2, 4, 5, 6, 7, 8, 9, 10, 11, 12, 13, 14, 15, 16, 17, 18, 19, 20, 21, 22, 23, 24, 25, 26, 27, 28, 29, 30, 31, 32, 33, 34, 35, 36, 37, 38, 39, 40] (fun vs w' => ∃ k : Nat, k ≤ s.length ∧ (s.take k).all okB = true ∧ vs = [.int .i64 k] ∧ w' = w) (fun vs _ => match vs with | [.int _ i] => s.length - i.toNat | _ => 0) (by kernel_rfl) ⟨0, by omega, rfl, rfl, rfl⟩ ?_
  rintro vs w' J ⟨k, hk, hall, rfl, rfl⟩
  by_cases hlt : k < s.length
  · have hget : s.getD k 0 = s[k] := by rw [List.getD_eq_getElem?_getD, List.getElem?_eq_getElem hlt]; rfl
    have hall2 : (s.take (k + 1)).all okB = okB s[k] := by
      rw [List.take_succ_eq_append_getElem hlt, List.all_append, hall]; simp
    have hno : okB s[k] = false → nameS s = false := fun hb => by
      unfold nameS
      have : s.all okB = false := by
        rw [List.all_eq_false]; exact ⟨_, List.getElem_mem hlt, by simp [hb]⟩
      rw [this]; rfl
    have hiff := okB_iff (b := s[k])
    have hx := s[k].toNat_lt
    generalize s[k] = b at *
    have hcs : b.toNat < 45 ∨ b.toNat = 45 ∨ b.toNat = 46 ∨ b.toNat = 47 ∨ (48 ≤ b.toNat ∧ b.toNat ≤ 57) ∨ (58 ≤ b.toNat ∧ b.toNat ≤ 96) ∨ (97 ≤ b.toNat ∧ b.toNat ≤ 122) ∨ 123 ≤ b.toNat := by omega
    by_cases hb : okB b = true
    · have hc := hiff.1 hb
      rw [hb] at hall2
      rcases hc with ⟨c1, c2⟩ | ⟨c1, c2⟩ | c1 | c1 | c1 <;> (simp (config := { maxSteps := 1000000 }) (disch := first | omega | (simp only [sizeAlloc, sizeDrew, sizeSet, sizePut] <;> omega) | fail) only [GS1, GS2, GS3, GS4, GS5, GS6, GS7, GS8, GS9, GS10, GS11, TT_eq, TTl, Nat.reduceAdd, Nat.reduceMul, Nat.reduceSub, Nat.reduceDiv, Nat.reduceMod, Nat.reducePow, Nat.reduceEqDiff, ↓reduceIte, reduceCtorEq, true_and, and_true, and_self, false_and, and_false, Int.reduceToNat, Int.reduceAdd, Int.reduceSub, Int.reduceMul, cond_true, cond_false, List.toList_toArray, Option.map_some, Option.map_none, Option.some.injEq, List.cons_append, List.nil_append, List.length_cons, List.length_nil, List.getD_cons_zero, List.getD_cons_succ, hget]; exact ⟨⟨k + 1, by omega, hall2, rfl⟩, by omega⟩)
    · have hc : b.toNat < 45 ∨ (58 ≤ b.toNat ∧ b.toNat ≤ 96) ∨ 123 ≤ b.toNat := by
        have := mt hiff.2 hb
        omega
      rw [hno (Bool.eq_false_iff.2 hb)] at hR
      rcases hc with c1 | ⟨c1, c2⟩ | c1 <;> (simp (config := { maxSteps := 1000000 }) (disch := first | omega | (simp only [sizeAlloc, sizeDrew, sizeSet, sizePut] <;> omega) | fail) only [GS1, GS2, GS3, GS4, GS5, GS6, GS7, GS8, GS9, GS10, GS11, TT_eq, TTl, Nat.reduceAdd, Nat.reduceMul, Nat.reduceSub, Nat.reduceDiv, Nat.reduceMod, Nat.reducePow, Nat.reduceEqDiff, ↓reduceIte, reduceCtorEq, true_and, and_true, and_self, false_and, and_false, Int.reduceToNat, Int.reduceAdd, Int.reduceSub, Int.reduceMul, cond_true, cond_false, List.toList_toArray, Option.map_some, Option.map_none, Option.some.injEq, List.cons_append, List.nil_append, List.length_cons, List.length_nil, List.getD_cons_zero, List.getD_cons_succ, hget]; exact hR)
  · have e : k = s.length := by omega
    subst e
    rw [List.take_length] at hall
    unfold nameS at hR
    rw [hall] at hR
    cases s with
    | nil =>
      simp (config := { maxSteps := 1000000 }) (disch := first | omega | (simp only [sizeAlloc, sizeDrew, sizeSet, sizePut] <;> omega) | fail) only [GS1, GS2, GS3, GS4, GS5, GS6, GS7, GS8, GS9, GS10, GS11, TT_eq, TTl, Nat.reduceAdd, Nat.reduceMul, Nat.reduceSub, Nat.reduceDiv, Nat.reduceMod, Nat.reducePow, Nat.reduceEqDiff, ↓reduceIte, reduceCtorEq, true_and, and_true, and_self, false_and, and_false, Int.reduceToNat, Int.reduceAdd, Int.reduceSub, Int.reduceMul, cond_true, cond_false, List.toList_toArray, Option.map_some, Option.map_none, Option.some.injEq, List.cons_append, List.nil_append, List.length_cons, List.length_nil, List.getD_cons_zero, List.getD_cons_succ, eq_self]
      exact hR
    | cons c r =>
      simp (config := { maxSteps := 1000000 }) (disch := first | omega | (simp only [sizeAlloc, sizeDrew, sizeSet, sizePut] <;> omega) | fail) only [GS1, GS2, GS3, GS4, GS5, GS6, GS7, GS8, GS9, GS10, GS11, TT_eq, TTl, Nat.reduceAdd, Nat.reduceMul, Nat.reduceSub, Nat.reduceDiv, Nat.reduceMod, Nat.reducePow, Nat.reduceEqDiff, ↓reduceIte, reduceCtorEq, true_and, and_true, and_self, false_and, and_false, Int.reduceToNat, Int.reduceAdd, Int.reduceSub, Int.reduceMul, cond_true, cond_false, List.toList_toArray, Option.map_some, Option.map_none, Option.some.injEq, List.cons_append, List.nil_append, List.length_cons, List.length_nil, List.getD_cons_zero, List.getD_cons_succ]
      exact hR
end Go.Proofs.Yticoollhaachfaa
