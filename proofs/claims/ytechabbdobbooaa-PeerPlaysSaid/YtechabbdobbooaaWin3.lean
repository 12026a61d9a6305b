/-
  The window's list: a range over the nonces that were taken.
-/
import Derived.Test.YtechabbdobbooaaWin2
set_option linter.unusedSimpArgs false
set_option linter.unusedVariables false
namespace Go.Proofs.Ytechabbdobbooaa
open Go Go.Wk Go.RowKit
attribute [local irreducible] go Hold
theorem taken_cps (a : Option Addr) (w : World) (R : Ending → World → Prop)
    (hR : R (.returned (.func (.func 41) #[] #[.pointer (some ⟨w.heap.size, 0, none⟩)])) (w.alloc (.cells #[.pointer a] 24))) :
    Calls Try.prog 39 #[.pointer a] w R := by
  refine calls_go 4000 okT Try.func39 rfl (rs := [.tmp 2]) rfl Try.ntmps39 (args := [.pointer a]) ?_
  simp (config := { maxSteps := 1000000 }) (disch := first | omega | (simp only [sizeAlloc, sizeDrew, sizeSet, sizePut]; omega) | fail) only [GS1, GS2, GS3, GS4, GS5, GS6, GS7, GS8, GS9, GS10, TT_eq, TTl, Nat.reduceAdd, Nat.reduceMul, Nat.reduceSub, Nat.reduceDiv, Nat.reduceMod, Nat.reducePow, Nat.reduceEqDiff, ↓reduceIte, reduceCtorEq, true_and, and_true, and_self, false_and, and_false, Int.reduceToNat, Int.reduceAdd, Int.reduceSub, Int.reduceMul, cond_true, cond_false, List.toList_toArray, Option.map_some, Option.map_none, Option.some.injEq, List.cons_append, List.nil_append]
  exact hR
/-- The nonces that were taken, from the k-th bit on, rising. -/
def takenL (t : Int) (v : Nat) : Nat → List Int
  | 0 => []
  | k + 1 => if v.testBit k then (t - k) :: takenL t v k else takenL t v k
set_option maxRecDepth 20000 in
set_option maxHeartbeats 400000 in
theorem taken1_cps (b bx l : Nat) (t : Int) (v : Nat) (w : World) (R : Ending → World → Prop) (ht : 0 ≤ t) (ht2 : t ≤ 65535) (hv : v < 18446744073709551616)
    (Inv : List Int → World → Prop) (h0 : Inv (takenL t v 64) w) (hdone : ∀ w, Inv [] w → R (.returned (.tuple #[])) w)
    (hwin : ∀ r w, Inv r w → isWin w b t v ∧ w.heap[bx]? = some (.cells #[.pointer (some ⟨b, 0, none⟩)] 24 (0, 0)))
    (hstep : ∀ x r w, Inv (x :: r) w → yieldW Try.prog l #[.int .i64 x] w (fun u w' => u = .bool true ∧ Inv r w') (fun _ _ => False)) :
    Calls Try.prog 41 #[.func (.yield l) #[] #[], .pointer (some ⟨bx, 0, none⟩)] w R := by
  have hw0 := (hwin _ _ h0).1
  have hb0 := (hwin _ _ h0).2
  have hc0 := hw0.c0; have hc1 := hw0.c1
  have hcb : w.cell? ⟨bx, 0, none⟩ = some (.pointer (some ⟨b, 0, none⟩)) := cellOf hb0
  refine calls_go 4000 okT Try.func41 rfl (rs := []) rfl Try.ntmps41 (args := [.func (.yield l) #[] #[], .pointer (some ⟨bx, 0, none⟩)]) ?_
  simp (config := { maxSteps := 1000000 }) (disch := first | omega | (simp only [sizeAlloc, sizeDrew, sizeSet, sizePut]; omega) | fail) only [GS1, GS2, GS3, GS4, GS5, GS6, GS7, GS8, GS9, GS10, TT_eq, TTl, Nat.reduceAdd, Nat.reduceMul, Nat.reduceSub, Nat.reduceDiv, Nat.reduceMod, Nat.reducePow, Nat.reduceEqDiff, ↓reduceIte, reduceCtorEq, true_and, and_true, and_self, false_and, and_false, Int.reduceToNat, Int.reduceAdd, Int.reduceSub, Int.reduceMul, cond_true, cond_false, List.toList_toArray, Option.map_some, Option.map_none, Option.some.injEq, List.cons_append, List.nil_append, hcb, hc0, hc1]
  refine csel_split (fun h => ?_) (fun h => ?_)
  · simp only [bnd_eq, Bool.and_eq_true, decide_eq_true_eq, and_true] at h
    obtain ⟨h3, h4⟩ := h
    have h5 : v = 0 := by omega
    have h6 : takenL t v 64 = [] := by subst h5; simp [takenL]
    rw [h6] at h0
    simp (config := { maxSteps := 1000000 }) (disch := first | omega | (simp only [sizeAlloc, sizeDrew, sizeSet, sizePut]; omega) | fail) only [GS1, GS2, GS3, GS4, GS5, GS6, GS7, GS8, GS9, GS10, TT_eq, TTl, Nat.reduceAdd, Nat.reduceMul, Nat.reduceSub, Nat.reduceDiv, Nat.reduceMod, Nat.reducePow, Nat.reduceEqDiff, ↓reduceIte, reduceCtorEq, true_and, and_true, and_self, false_and, and_false, Int.reduceToNat, Int.reduceAdd, Int.reduceSub, Int.reduceMul, cond_true, cond_false, List.toList_toArray, Option.map_some, Option.map_none, Option.some.injEq, List.cons_append, List.nil_append]
    exact hdone _ h0
  · simp (config := { maxSteps := 1000000 }) (disch := first | omega | (simp only [sizeAlloc, sizeDrew, sizeSet, sizePut]; omega) | fail) only [GS1, GS2, GS3, GS4, GS5, GS6, GS7, GS8, GS9, GS10, TT_eq, TTl, Nat.reduceAdd, Nat.reduceMul, Nat.reduceSub, Nat.reduceDiv, Nat.reduceMod, Nat.reducePow, Nat.reduceEqDiff, ↓reduceIte, reduceCtorEq, true_and, and_true, and_self, false_and, and_false, Int.reduceToNat, Int.reduceAdd, Int.reduceSub, Int.reduceMul, cond_true, cond_false, List.toList_toArray, Option.map_some, Option.map_none, Option.some.injEq, List.cons_append, List.nil_append]
    refine hold_loop okT (rs := []) rfl [3] [14, 15, 16, 17, 18, 19, 20, 21, 22, 23, 24, 25, 26, 27, 28, 29, 30, 31, 32, 33, 34, 35, 36, 37, 38] (fun vs w => ∃ m : Nat, m ≤ 64 ∧ vs = [.int .i64 ((m : Int) - 1)] ∧ Inv (takenL t v m) w) (fun vs _ => match vs with | [.int _ i] => (i + 1).toNat | _ => 0) (by kernel_rfl) ⟨64, by omega, rfl, h0⟩ ?_
    rintro vs w J ⟨m, hm, rfl, hI⟩
    have hw1 := (hwin _ _ hI).1
    have hc0 := hw1.c0; have hc1 := hw1.c1
    have hcb : w.cell? ⟨bx, 0, none⟩ = some (.pointer (some ⟨b, 0, none⟩)) := cellOf (hwin _ _ hI).2
    rcases m with _ | m
    · simp only [takenL] at hI
      simp (config := { maxSteps := 1000000 }) (disch := first | omega | (simp only [sizeAlloc, sizeDrew, sizeSet, sizePut]; omega) | fail) only [GS1, GS2, GS3, GS4, GS5, GS6, GS7, GS8, GS9, GS10, TT_eq, TTl, Nat.reduceAdd, Nat.reduceMul, Nat.reduceSub, Nat.reduceDiv, Nat.reduceMod, Nat.reducePow, Nat.reduceEqDiff, ↓reduceIte, reduceCtorEq, true_and, and_true, and_self, false_and, and_false, Int.reduceToNat, Int.reduceAdd, Int.reduceSub, Int.reduceMul, cond_true, cond_false, List.toList_toArray, Option.map_some, Option.map_none, Option.some.injEq, List.cons_append, List.nil_append]
      exact hdone _ hI
    · have hm' : m < 64 := by omega
      have hb := bit_eqN v m hv hm'
      by_cases h6 : v.testBit m = true
      · have h7 := hb.2 h6
        simp only [takenL, h6, if_true] at hI
        simp (config := { maxSteps := 1000000 }) (disch := first | omega | (simp only [sizeAlloc, sizeDrew, sizeSet, sizePut]; omega) | fail) only [GS1, GS2, GS3, GS4, GS5, GS6, GS7, GS8, GS9, GS10, TT_eq, TTl, Nat.reduceAdd, Nat.reduceMul, Nat.reduceSub, Nat.reduceDiv, Nat.reduceMod, Nat.reducePow, Nat.reduceEqDiff, ↓reduceIte, reduceCtorEq, true_and, and_true, and_self, false_and, and_false, Int.reduceToNat, Int.reduceAdd, Int.reduceSub, Int.reduceMul, cond_true, cond_false, List.toList_toArray, Option.map_some, Option.map_none, Option.some.injEq, List.cons_append, List.nil_append, hcb, hc0, hc1, h7, show ((m + 1 : Nat) : Int) - 1 = (m : Int) from by omega]
        refine yieldW_mono (hstep _ _ _ hI) ?_ (fun _ _ h => h.elim)
        rintro u w1 ⟨rfl, hI1⟩
        refine hold_ops okT (rs := []) rfl ?_
        simp (config := { maxSteps := 1000000 }) (disch := first | omega | (simp only [sizeAlloc, sizeDrew, sizeSet, sizePut]; omega) | fail) only [GS1, GS2, GS3, GS4, GS5, GS6, GS7, GS8, GS9, GS10, TT_eq, TTl, Nat.reduceAdd, Nat.reduceMul, Nat.reduceSub, Nat.reduceDiv, Nat.reduceMod, Nat.reducePow, Nat.reduceEqDiff, ↓reduceIte, reduceCtorEq, true_and, and_true, and_self, false_and, and_false, Int.reduceToNat, Int.reduceAdd, Int.reduceSub, Int.reduceMul, cond_true, cond_false, List.toList_toArray, Option.map_some, Option.map_none, Option.some.injEq, List.cons_append, List.nil_append, show ((m : Int) - 1 + 1).toNat = m from by omega]
        exact ⟨⟨m, by omega, rfl, hI1⟩, by omega⟩
      · have h7 : ¬ _ := fun h => h6 (hb.1 h)
        have e : takenL t v (m + 1) = takenL t v m := by simp only [takenL]; rw [if_neg h6]
        rw [e] at hI
        simp (config := { maxSteps := 1000000 }) (disch := first | omega | (simp only [sizeAlloc, sizeDrew, sizeSet, sizePut]; omega) | fail) only [GS1, GS2, GS3, GS4, GS5, GS6, GS7, GS8, GS9, GS10, TT_eq, TTl, Nat.reduceAdd, Nat.reduceMul, Nat.reduceSub, Nat.reduceDiv, Nat.reduceMod, Nat.reducePow, Nat.reduceEqDiff, ↓reduceIte, reduceCtorEq, true_and, and_true, and_self, false_and, and_false, Int.reduceToNat, Int.reduceAdd, Int.reduceSub, Int.reduceMul, cond_true, cond_false, List.toList_toArray, Option.map_some, Option.map_none, Option.some.injEq, List.cons_append, List.nil_append, hcb, hc0, hc1, h7, show ((m + 1 : Nat) : Int) - 1 = (m : Int) from by omega]
        exact ⟨⟨m, by omega, rfl, hI⟩, by omega⟩
theorem takenL_len (t : Int) (v : Nat) : ∀ k, (takenL t v k).length ≤ k
  | 0 => by simp [takenL]
  | k + 1 => by have := takenL_len t v k; simp only [takenL]; split <;> simp <;> omega
def ListInv (b : Nat) (t : Int) (v : Nat) (w : World) (lp : Loop) (r : List Int) (w' : World) : Prop :=
  ∃ done sv, done ++ r = takenL t v 64 ∧ w'.heap[w.heap.size]? = some (.cells #[sv] 22 (0, 0)) ∧ w'.ownsRow (w.heap.size + 4) 3 1 sv done.length (done.map (Value.int .i64)) ∧
    w'.heap[w.heap.size + 1]? = some (.cells #[.pointer (some ⟨b, 0, none⟩)] 24 (0, 0)) ∧ w'.heap[w.heap.size + 2]? = some (.deferred (some [])) ∧ w'.heap[w.heap.size + 3]? = some (.loop lp) ∧ Mod [] w w' ∧ w.heap.size + 4 ≤ w'.heap.size ∧ sv.oneCell' = true
set_option maxRecDepth 20000 in
set_option maxHeartbeats 1000000 in
theorem List_cps (b : Nat) (t : Int) (v : Nat) (w : World) (R : Ending → World → Prop) (ht : 0 ≤ t) (ht2 : t ≤ 65535) (hv : v < 18446744073709551616) (hw : isWin w b t v)
    (hR : ∀ sv w', w'.ownsRow w.heap.size 3 1 sv (takenL t v 64).length ((takenL t v 64).map (Value.int .i64)) → Mod [] w w' → R (.returned sv) w') :
    Calls Try.prog 27 #[.pointer (some ⟨b, 0, none⟩)] w R := by
  refine calls_go 4000 okT Try.func27 rfl (rs := [.cell 2 22]) rfl Try.ntmps27 (args := [.pointer (some ⟨b, 0, none⟩)]) ?_
  simp (config := { maxSteps := 1000000 }) (disch := first | omega | (simp only [sizeAlloc, sizeDrew, sizeSet, sizePut]; omega) | fail) only [GS1, GS2, GS3, GS4, GS5, GS6, GS7, GS8, GS9, GS10, TT_eq, TTl, Nat.reduceAdd, Nat.reduceMul, Nat.reduceSub, Nat.reduceDiv, Nat.reduceMod, Nat.reducePow, Nat.reduceEqDiff, ↓reduceIte, reduceCtorEq, true_and, and_true, and_self, false_and, and_false, Int.reduceToNat, Int.reduceAdd, Int.reduceSub, Int.reduceMul, cond_true, cond_false, List.toList_toArray, Option.map_some, Option.map_none, Option.some.injEq, List.cons_append, List.nil_append]
  refine ⟨fok39, taken_cps _ _ _ (.inl ⟨_, rfl, hold_ops okT (rs := [.cell 2 22]) rfl ?_⟩)⟩
  simp (config := { maxSteps := 1000000 }) (disch := first | omega | (simp only [sizeAlloc, sizeDrew, sizeSet, sizePut]; omega) | fail) only [GS1, GS2, GS3, GS4, GS5, GS6, GS7, GS8, GS9, GS10, TT_eq, TTl, Nat.reduceAdd, Nat.reduceMul, Nat.reduceSub, Nat.reduceDiv, Nat.reduceMod, Nat.reducePow, Nat.reduceEqDiff, ↓reduceIte, reduceCtorEq, true_and, and_true, and_self, false_and, and_false, Int.reduceToNat, Int.reduceAdd, Int.reduceSub, Int.reduceMul, cond_true, cond_false, List.toList_toArray, Option.map_some, Option.map_none, Option.some.injEq, List.cons_append, List.nil_append]
  refine hold_rangeFunc rfl fok41 fun fid => ?_
  simp only [sizeAlloc, List.toList_toArray, List.nil_append, List.cons_append]
  refine taken1_cps b (w.heap.size + 1) (w.heap.size + 1 + 1 + 1) t v _ _ ht ht2 hv (ListInv b t v w _) ⟨[], .slice none 0 0, rfl, ?_, ?_, ?_, ?_, heapAe (by simp only [sizeAlloc]), ?_, ?_, rfl⟩ ?_ ?_ ?_
  · (simp only [heapA, sizeAlloc]; repeat (first | rfl | rw [if_neg (by omega)] | rw [if_pos (by omega)]))
  · exact World.ownsRow_nil _ _ _ _
  · (simp only [heapA, sizeAlloc]; repeat (first | rfl | rw [if_neg (by omega)] | rw [if_pos (by omega)]))
  · (simp only [heapA, sizeAlloc]; repeat (first | rfl | rw [if_neg (by omega)] | rw [if_pos (by omega)]))
  · exact ((((Mod.refl _ _).alloc _).alloc _).alloc _).alloc _
  · simp only [sizeAlloc]; omega
  · rintro w1 ⟨done, sv, hd, h0, hown, h1, h2, h3, hM, hz, ho⟩
    rw [List.append_nil] at hd
    subst hd
    refine ⟨_, .normal, h3, by simp, rfl, hold_ex okT (rs := [.cell 2 22]) rfl ?_⟩
    generalize hW : w1.putObj (w.heap.size + 1 + 1 + 1) _ = w2
    have hM2 : Mod [w.heap.size + 3] w1 w2 := by rw [← hW]; exact (Mod.refl _ _).put (.inl (by simp <;> omega)) _
    have g0 := hM2.get h0 (by simp <;> omega)
    have g2 := hM2.get h2 (by simp <;> omega)
    have hown2 := ownsRow_mod hown hM2 (by simp <;> omega)
    have hc := cellOf (o := 0) g0
    have hf := frozenOf (o := 0) g0
    simp (config := { maxSteps := 1000000 }) (disch := first | omega | (simp only [sizeAlloc, sizeDrew, sizeSet, sizePut]; omega) | fail) only [GS1, GS2, GS3, GS4, GS5, GS6, GS7, GS8, GS9, GS10, TT_eq, TTl, Nat.reduceAdd, Nat.reduceMul, Nat.reduceSub, Nat.reduceDiv, Nat.reduceMod, Nat.reducePow, Nat.reduceEqDiff, ↓reduceIte, reduceCtorEq, true_and, and_true, and_self, false_and, and_false, Int.reduceToNat, Int.reduceAdd, Int.reduceSub, Int.reduceMul, cond_true, cond_false, List.toList_toArray, Option.map_some, Option.map_none, Option.some.injEq, List.cons_append, List.nil_append, hc, hf, cellsL_one ho, ho]
    generalize hW3 : w2.setCell ⟨w.heap.size, 0, none⟩ sv = w3
    have k0 : w3.heap[w.heap.size]? = some (.cells #[sv] 22 (0, 0)) := by rw [← hW3]; exact heapSet g0
    have hM3 : Mod [w.heap.size] w2 w3 := by rw [← hW3]; exact (Mod.refl _ _).set (.inl (by simp <;> omega)) _
    have hown3 := ownsRow_mod hown2 hM3 (by simp <;> omega)
    refine ⟨_, rfl, hM3.get g2 (by simp <;> omega), ?_⟩
    generalize hW4 : w3.putObj (w.heap.size + 1 + 1) _ = w4
    have hM4 : Mod [w.heap.size + 2] w3 w4 := by rw [← hW4]; exact (Mod.refl _ _).put (.inl (by simp <;> omega)) _
    have hown4 := ownsRow_mod hown3 hM4 (by simp <;> omega)
    have c4 := cellOf (o := 0) (hM4.get k0 (by simp <;> omega))
    simp (config := { maxSteps := 1000000 }) only [GS1, GS2, GS3, GS4, GS5, GS6, GS7, GS8, GS9, GS10, TT_eq, TTl, Nat.reduceAdd, Nat.reduceMul, Nat.reduceSub, Nat.reduceDiv, Nat.reduceMod, Nat.reducePow, Nat.reduceEqDiff, ↓reduceIte, reduceCtorEq, true_and, and_true, and_self, false_and, and_false, Int.reduceToNat, Int.reduceAdd, Int.reduceSub, Int.reduceMul, cond_true, cond_false, List.toList_toArray, Option.map_some, Option.map_none, Option.some.injEq, List.cons_append, List.nil_append, leaveW, loadW, c4]
    refine ⟨sv, rfl, hR sv w4 (by simpa using ownsRow_base hown4 (by omega)) ?_⟩
    exact ((hM.trans hM2 (by simp <;> omega)).trans hM3 (by simp <;> omega)).trans hM4 (by simp <;> omega)
  · rintro r w1 ⟨done, sv, hd, h0, hown, h1, h2, h3, hM, hz, ho⟩
    exact ⟨hM.get hw (by simp <;> omega), h1⟩
  · rintro x r w1 ⟨done, sv, hd, h0, hown, h1, h2, h3, hM, hz, ho⟩
    refine yieldW_of h3 rfl (hold_code okT (rs := []) rfl ?_)
    simp (config := { maxSteps := 1000000 }) (disch := first | omega | (simp only [sizeAlloc, sizeDrew, sizeSet, sizePut]; omega) | fail) only [GS1, GS2, GS3, GS4, GS5, GS6, GS7, GS8, GS9, GS10, TT_eq, TTl, Nat.reduceAdd, Nat.reduceMul, Nat.reduceSub, Nat.reduceDiv, Nat.reduceMod, Nat.reducePow, Nat.reduceEqDiff, ↓reduceIte, reduceCtorEq, true_and, and_true, and_self, false_and, and_false, Int.reduceToNat, Int.reduceAdd, Int.reduceSub, Int.reduceMul, cond_true, cond_false, List.toList_toArray, Option.map_some, Option.map_none, Option.some.injEq, List.cons_append, List.nil_append]
    refine ⟨rfl, rfl, _, h3, rfl, hold_code okT (rs := []) rfl ?_⟩
    generalize hO : Obj.loop _ = o3
    generalize hW : w1.putObj (w.heap.size + 1 + 1 + 1) o3 = w2
    have hM2 : Mod [w.heap.size + 3] w1 w2 := by rw [← hW]; exact (Mod.refl _ _).put (.inl (by simp)) _
    have g0 := hM2.get h0 (by simp <;> omega)
    have g1 := hM2.get h1 (by simp <;> omega)
    have g2 := hM2.get h2 (by simp <;> omega)
    have g3 : w2.heap[w.heap.size + 3]? = some o3 := by rw [← hW]; exact heapPe h3
    rw [← hO] at g3
    clear hO hW h0 h1 h2
    have hown2 := ownsRow_mod hown hM2 (by simp <;> omega)
    have hc := cellOf (o := 0) g0
    simp (config := { maxSteps := 1000000 }) (disch := first | omega | (simp only [sizeAlloc, sizeDrew, sizeSet, sizePut]; omega) | fail) only [GS1, GS2, GS3, GS4, GS5, GS6, GS7, GS8, GS9, GS10, TT_eq, TTl, Nat.reduceAdd, Nat.reduceMul, Nat.reduceSub, Nat.reduceDiv, Nat.reduceMod, Nat.reducePow, Nat.reduceEqDiff, ↓reduceIte, reduceCtorEq, true_and, and_true, and_self, false_and, and_false, Int.reduceToNat, Int.reduceAdd, Int.reduceSub, Int.reduceMul, cond_true, cond_false, List.toList_toArray, Option.map_some, Option.map_none, Option.some.injEq, List.cons_append, List.nil_append, hc]
    have hlen : done.length ≤ 63 := by have := takenL_len t v 64; rw [← hd] at this; simp at this; omega
    refine hold_append1 okT (by rfl) (by rfl) (by rfl) (by rfl) (by rfl) _ hown2 (by rfl) (by rfl) (by rfl) (Nat.le_trans (Nat.mul_le_mul_right _ (Nat.succ_le_succ hlen)) (by decide)) (by unfold maxLen; omega) (by have := hM2.size; omega) fun sv' w3 hown3 hM3 hnn => ?_
    refine hold_ops okT (rs := []) rfl ?_
    have hb3 : ∀ k o, w2.heap[k]? = some o → k < w.heap.size + 4 → w3.heap[k]? = some o := fun k o h hk => hM3.get h (fun hx => by
      have := (hown2.lt k (by simpa using hx)).1; omega)
    have k0 := hb3 _ _ g0 (by omega); have k1 := hb3 _ _ g1 (by omega); have k2 := hb3 _ _ g2 (by omega); have k3 := hb3 _ _ g3 (by omega)
    have hc3 := cellOf (o := 0) k0
    have hf3 := frozenOf (o := 0) k0
    have ho3 := ownsRow_one hown3
    simp (config := { maxSteps := 1000000 }) (disch := first | omega | (simp only [sizeAlloc, sizeDrew, sizeSet, sizePut]; omega) | fail) only [GS1, GS2, GS3, GS4, GS5, GS6, GS7, GS8, GS9, GS10, TT_eq, TTl, Nat.reduceAdd, Nat.reduceMul, Nat.reduceSub, Nat.reduceDiv, Nat.reduceMod, Nat.reducePow, Nat.reduceEqDiff, ↓reduceIte, reduceCtorEq, true_and, and_true, and_self, false_and, and_false, Int.reduceToNat, Int.reduceAdd, Int.reduceSub, Int.reduceMul, cond_true, cond_false, List.toList_toArray, Option.map_some, Option.map_none, Option.some.injEq, List.cons_append, List.nil_append, hc3, hf3, cellsL_one ho3, ho3]
    generalize hW4 : w3.setCell ⟨w.heap.size, 0, none⟩ sv' = w4
    have j0 : w4.heap[w.heap.size]? = some (.cells #[sv'] 22 (0, 0)) := by rw [← hW4]; exact heapSet k0
    have hM4 : Mod [w.heap.size] w3 w4 := by rw [← hW4]; exact (Mod.refl _ _).set (.inl (by simp)) _
    have hown4 := ownsRow_mod hown3 hM4 (by simp <;> omega)
    refine ⟨_, hM4.get k3 (by simp <;> omega), rfl, ?_⟩
    generalize hW5 : w4.putObj _ _ = w5
    have hM5 : Mod [w.heap.size + 3] w4 w5 := by rw [← hW5]; exact (Mod.refl _ _).put (.inl (by simp)) _
    have hown5 := ownsRow_mod hown4 hM5 (by simp <;> omega)
    have hMf : Mod [] w w5 := (((hM.trans hM2 (by simp <;> omega)).trans hM3 (fun y hy => .inr (by have := (hown2.lt y (by simpa using hy)).1; omega))).trans hM4 (by simp <;> omega)).trans hM5 (by simp <;> omega)
    refine ⟨done ++ [x], sv', by simpa using hd, hM5.get j0 (by simp <;> omega), by simpa using hown5, hM5.get (hM4.get k1 (by simp <;> omega)) (by simp <;> omega), hM5.get (hM4.get k2 (by simp <;> omega)) (by simp <;> omega), ?_, hMf, ?_, ho3⟩
    · rw [← hW5]; exact heapPe (hM4.get k3 (by simp <;> omega))
    · have := hM5.size; have := hM4.size; have := hM3.size; have := hM2.size; omega
end Go.Proofs.Ytechabbdobbooaa
