/-
  The reference's reader: front, value, atom, Plain (walks).
-/
import Derived.Test.YtpcmebcfgmoipaaS4
set_option linter.unusedSimpArgs false
set_option linter.unusedVariables false
namespace Go.Proofs.Ytpcmebcfgmoipaa
open Go Go.Wk Go.RowKit
attribute [local irreducible] go Hold
open Go.Lib
set_option maxRecDepth 20000 in
set_option maxHeartbeats 4000000 in
theorem rFront_cps (s list : List UInt8) (hs : s.length ≤ maxLen) (hl : list.length ≤ 1000) (w : World) (R : Ending → World → Prop) (hR : ∀ w', Mod [] w w' → R (.returned (.int .i64 (s.takeWhile fun c => list.contains c).length)) w') :
    Calls Try.prog 93 #[.string ⟨s.toArray⟩, .string ⟨list.toArray⟩] w R := by
  unfold maxLen at hs
  obtain ⟨p, hp⟩ : ∃ p : UInt8 → Bool, p = fun c => list.contains c := ⟨_, rfl⟩
  have hpc : ∀ c, p c = list.contains c := fun c => by rw [hp]
  rw [← hp] at hR
  clear hp
  refine calls_go 4000 okT Try.func93 rfl (rs := [.tmp 4]) rfl Try.ntmps93 (args := [.string ⟨s.toArray⟩, .string ⟨list.toArray⟩]) ?_
  simp (config := { maxSteps := 1000000 }) (disch := first | omega | (simp only [sizeAlloc, sizeDrew, sizeSet, sizePut] <;> omega) | fail) only [GS1, GS2, GS3, GS4, GS5, GS6, GS7, GS8, GS9, GS10, GS11, TT_eq, TTl, Nat.reduceAdd, Nat.reduceMul, Nat.reduceSub, Nat.reduceDiv, Nat.reduceMod, Nat.reducePow, Nat.reduceEqDiff, ↓reduceIte, reduceCtorEq, true_and, and_true, and_self, false_and, and_false, Int.reduceToNat, Int.reduceAdd, Int.reduceSub, Int.reduceMul, cond_true, cond_false, List.toList_toArray, Option.map_some, Option.map_none, Option.some.injEq, List.cons_append, List.nil_append, List.length_cons, List.length_nil, List.getD_cons_zero, List.getD_cons_succ]
  refine hold_loop okT (rs := [.tmp 4]) rfl [5] [4, 6, 7, 8, 9, 10, 11, 12, 13, 14, 15, 16, 17, 18, 19, 20, 21, 22, 23, 24, 25, 26, 27, 28, 29, 30, 31, 32] (fun vs w' => ∃ n : Nat, vs = [.int .i64 n] ∧ n ≤ s.length ∧ (s.takeWhile p).length = n + ((s.drop n).takeWhile p).length ∧ Mod [] w w') (fun vs _ => match vs with | [.int _ i] => s.length - i.toNat | _ => 0) (by kernel_rfl) ⟨0, rfl, by omega, by rw [List.drop_zero, Nat.zero_add], Mod.refl _ _⟩ ?_
  rintro vs w1 J ⟨n, rfl, hn, hX, hM⟩
  by_cases hlt : n < s.length
  · have y1 : s.getD n 0 = s[n] := by rw [List.getD_eq_getElem?_getD, List.getElem?_eq_getElem hlt]; rfl
    have hq := s[n].toNat_lt
    rw [List.drop_eq_getElem_cons hlt] at hX
    simp (config := { maxSteps := 1000000 }) (disch := first | omega | (simp only [sizeAlloc, sizeDrew, sizeSet, sizePut] <;> omega) | fail) only [GS1, GS2, GS3, GS4, GS5, GS6, GS7, GS8, GS9, GS10, GS11, TT_eq, TTl, Nat.reduceAdd, Nat.reduceMul, Nat.reduceSub, Nat.reduceDiv, Nat.reduceMod, Nat.reducePow, Nat.reduceEqDiff, ↓reduceIte, reduceCtorEq, true_and, and_true, and_self, false_and, and_false, Int.reduceToNat, Int.reduceAdd, Int.reduceSub, Int.reduceMul, cond_true, cond_false, List.toList_toArray, Option.map_some, Option.map_none, Option.some.injEq, List.cons_append, List.nil_append, List.length_cons, List.length_nil, List.getD_cons_zero, List.getD_cons_succ]
    refine hold_loop okT (rs := [.tmp 4]) rfl [6, 7] [12, 13, 14, 15, 16, 17, 18, 19, 20, 21, 22, 23, 24, 25, 26, 27] (fun vs w' => ∃ k : Nat, vs = [.bool ((list.take k).contains s[n]), .int .i64 k] ∧ k ≤ list.length ∧ Mod [] w w') (fun vs _ => match vs with | [_, .int _ i] => list.length - i.toNat | _ => 0) (by kernel_rfl) ⟨0, rfl, by omega, hM⟩ ?_
    clear hM
    rintro vs w2 J2 ⟨k, rfl, hk, hM⟩
    by_cases hkl : k < list.length
    · have y2 : list.getD k 0 = list[k] := by rw [List.getD_eq_getElem?_getD, List.getElem?_eq_getElem hkl]; rfl
      have hq2 := list[k].toNat_lt
      have hs1 : (list.take (k + 1)).contains s[n] = ((list.take k).contains s[n] || decide (list[k] = s[n])) := by
        rw [List.take_add_one, List.getElem?_eq_getElem hkl]
        simp only [List.contains_eq_mem, Option.toList_some, List.mem_append, List.mem_singleton, Bool.decide_or]
        congr 1
        exact decide_eq_decide.2 eq_comm
      have e1 : decide ((list[k].toNat : Int) = (s[n].toNat : Int)) = decide (list[k] = s[n]) := decide_eq_decide.2 ⟨fun h => UInt8.toNat_inj.1 (by omega), fun h => by rw [h]⟩
      cases hb : (list.take k).contains s[n]
      · rw [hb] at hs1
        simp (config := { maxSteps := 1000000 }) (disch := first | omega | (simp only [sizeAlloc, sizeDrew, sizeSet, sizePut] <;> omega) | fail) only [GS1, GS2, GS3, GS4, GS5, GS6, GS7, GS8, GS9, GS10, GS11, TT_eq, TTl, Nat.reduceAdd, Nat.reduceMul, Nat.reduceSub, Nat.reduceDiv, Nat.reduceMod, Nat.reducePow, Nat.reduceEqDiff, ↓reduceIte, reduceCtorEq, true_and, and_true, and_self, false_and, and_false, Int.reduceToNat, Int.reduceAdd, Int.reduceSub, Int.reduceMul, cond_true, cond_false, List.toList_toArray, Option.map_some, Option.map_none, Option.some.injEq, List.cons_append, List.nil_append, List.length_cons, List.length_nil, List.getD_cons_zero, List.getD_cons_succ, y1, y2, e1]
        refine ⟨by kernel_rfl, fun m => ?_⟩
        refine ⟨⟨k + 1, by rw [hs1]; rfl, by omega, hM.drewN _⟩, by omega⟩
      · rw [hb] at hs1
        simp (config := { maxSteps := 1000000 }) (disch := first | omega | (simp only [sizeAlloc, sizeDrew, sizeSet, sizePut] <;> omega) | fail) only [GS1, GS2, GS3, GS4, GS5, GS6, GS7, GS8, GS9, GS10, GS11, TT_eq, TTl, Nat.reduceAdd, Nat.reduceMul, Nat.reduceSub, Nat.reduceDiv, Nat.reduceMod, Nat.reducePow, Nat.reduceEqDiff, ↓reduceIte, reduceCtorEq, true_and, and_true, and_self, false_and, and_false, Int.reduceToNat, Int.reduceAdd, Int.reduceSub, Int.reduceMul, cond_true, cond_false, List.toList_toArray, Option.map_some, Option.map_none, Option.some.injEq, List.cons_append, List.nil_append, List.length_cons, List.length_nil, List.getD_cons_zero, List.getD_cons_succ, y1, y2, e1]
        refine ⟨by kernel_rfl, fun m => ?_⟩
        refine ⟨⟨k + 1, by rw [hs1]; rfl, by omega, hM.drewN _⟩, by omega⟩
    · have e : k = list.length := by omega
      subst e
      rw [List.take_length]
      cases hb : list.contains s[n]
      · rw [List.takeWhile_cons_of_neg (by rw [hpc, hb]; simp)] at hX
        rw [hX] at hR
        simp (config := { maxSteps := 1000000 }) (disch := first | omega | (simp only [sizeAlloc, sizeDrew, sizeSet, sizePut] <;> omega) | fail) only [GS1, GS2, GS3, GS4, GS5, GS6, GS7, GS8, GS9, GS10, GS11, TT_eq, TTl, Nat.reduceAdd, Nat.reduceMul, Nat.reduceSub, Nat.reduceDiv, Nat.reduceMod, Nat.reducePow, Nat.reduceEqDiff, ↓reduceIte, reduceCtorEq, true_and, and_true, and_self, false_and, and_false, Int.reduceToNat, Int.reduceAdd, Int.reduceSub, Int.reduceMul, cond_true, cond_false, List.toList_toArray, Option.map_some, Option.map_none, Option.some.injEq, List.cons_append, List.nil_append, List.length_cons, List.length_nil, List.getD_cons_zero, List.getD_cons_succ]
        exact hR _ hM
      · rw [List.takeWhile_cons_of_pos (by rw [hpc, hb]), List.length_cons] at hX
        simp (config := { maxSteps := 1000000 }) (disch := first | omega | (simp only [sizeAlloc, sizeDrew, sizeSet, sizePut] <;> omega) | fail) only [GS1, GS2, GS3, GS4, GS5, GS6, GS7, GS8, GS9, GS10, GS11, TT_eq, TTl, Nat.reduceAdd, Nat.reduceMul, Nat.reduceSub, Nat.reduceDiv, Nat.reduceMod, Nat.reducePow, Nat.reduceEqDiff, ↓reduceIte, reduceCtorEq, true_and, and_true, and_self, false_and, and_false, Int.reduceToNat, Int.reduceAdd, Int.reduceSub, Int.reduceMul, cond_true, cond_false, List.toList_toArray, Option.map_some, Option.map_none, Option.some.injEq, List.cons_append, List.nil_append, List.length_cons, List.length_nil, List.getD_cons_zero, List.getD_cons_succ]
        exact ⟨⟨n + 1, rfl, by omega, by rw [hX]; omega, hM⟩, by omega⟩
  · have e : n = s.length := by omega
    subst e
    rw [List.drop_length] at hX
    rw [hX] at hR
    simp (config := { maxSteps := 1000000 }) (disch := first | omega | (simp only [sizeAlloc, sizeDrew, sizeSet, sizePut] <;> omega) | fail) only [GS1, GS2, GS3, GS4, GS5, GS6, GS7, GS8, GS9, GS10, GS11, TT_eq, TTl, Nat.reduceAdd, Nat.reduceMul, Nat.reduceSub, Nat.reduceDiv, Nat.reduceMod, Nat.reducePow, Nat.reduceEqDiff, ↓reduceIte, reduceCtorEq, true_and, and_true, and_self, false_and, and_false, Int.reduceToNat, Int.reduceAdd, Int.reduceSub, Int.reduceMul, cond_true, cond_false, List.toList_toArray, Option.map_some, Option.map_none, Option.some.injEq, List.cons_append, List.nil_append, List.length_cons, List.length_nil, List.getD_cons_zero, List.getD_cons_succ]
    exact hR _ hM
theorem hx_con (c : UInt8) : HX.contains c = hxB c.toNat := by
  have key : ∀ x : Fin 256, HX.contains (UInt8.ofNat x.val) = hxB x.val := by decide +kernel
  have := key ⟨c.toNat, c.toNat_lt⟩
  simpa using this
theorem ab_con (c : UInt8) : AB.contains c = nmB c.toNat := by rw [ab_ok, okB_nm]
theorem hexv_val : ∀ v : Fin 256, hxB v.val = true → ((97 ≤ v.val ∧ hexv (UInt8.ofNat v.val) = v.val - 97 + 10) ∨ (v.val < 97 ∧ 48 ≤ v.val ∧ hexv (UInt8.ofNat v.val) = v.val - 48)) := by decide +kernel
theorem rValue_cps (c : UInt8) (hc : hxB c.toNat = true) (w : World) (R : Ending → World → Prop) (hR : R (.returned (.int .u8 (hexv c))) w) : Calls Try.prog 95 #[.int .u8 c.toNat] w R := by
  have hv := hexv_val ⟨c.toNat, c.toNat_lt⟩ hc
  simp only [UInt8.ofNat_toNat] at hv
  have hlt := c.toNat_lt
  have h16 := (hexv_ix c hc).2
  refine calls_go 4000 okT Try.func95 rfl (rs := [.tmp 2]) rfl Try.ntmps95 (args := [.int .u8 c.toNat]) ?_
  rcases hv with ⟨h1, h2⟩ | ⟨h0, h1, h2⟩
  · have e : (c.toNat : Int) - 97 + 10 = (hexv c : Nat) := by omega
    simp (config := { maxSteps := 1000000 }) (disch := first | omega | (simp only [sizeAlloc, sizeDrew, sizeSet, sizePut] <;> omega) | fail) only [GS1, GS2, GS3, GS4, GS5, GS6, GS7, GS8, GS9, GS10, GS11, TT_eq, TTl, Nat.reduceAdd, Nat.reduceMul, Nat.reduceSub, Nat.reduceDiv, Nat.reduceMod, Nat.reducePow, Nat.reduceEqDiff, ↓reduceIte, reduceCtorEq, true_and, and_true, and_self, false_and, and_false, Int.reduceToNat, Int.reduceAdd, Int.reduceSub, Int.reduceMul, cond_true, cond_false, List.toList_toArray, Option.map_some, Option.map_none, Option.some.injEq, List.cons_append, List.nil_append, List.length_cons, List.length_nil, List.getD_cons_zero, List.getD_cons_succ, e]
    exact hR
  · have e : (c.toNat : Int) - 48 = (hexv c : Nat) := by omega
    simp (config := { maxSteps := 1000000 }) (disch := first | omega | (simp only [sizeAlloc, sizeDrew, sizeSet, sizePut] <;> omega) | fail) only [GS1, GS2, GS3, GS4, GS5, GS6, GS7, GS8, GS9, GS10, GS11, TT_eq, TTl, Nat.reduceAdd, Nat.reduceMul, Nat.reduceSub, Nat.reduceDiv, Nat.reduceMod, Nat.reducePow, Nat.reduceEqDiff, ↓reduceIte, reduceCtorEq, true_and, and_true, and_self, false_and, and_false, Int.reduceToNat, Int.reduceAdd, Int.reduceSub, Int.reduceMul, cond_true, cond_false, List.toList_toArray, Option.map_some, Option.map_none, Option.some.injEq, List.cons_append, List.nil_append, List.length_cons, List.length_nil, List.getD_cons_zero, List.getD_cons_succ, e]
    exact hR
def nmS (s : List UInt8) : List UInt8 := s.takeWhile fun c => nmB c.toNat
theorem rAtom7_cps (s : List UInt8) (hs : s.length ≤ maxLen) (w : World) (R : Ending → World → Prop) (hR : ∀ w', Mod [] w w' → R (.returned (.tuple #[.string ⟨(atomS (nmS s)).1.toArray⟩, .int .i64 (nmS s).length])) w') :
    Calls Try.prog 64 #[.string ⟨s.toArray⟩] w R := by
  have hs' := hs
  unfold maxLen at hs
  have e1 : (fun c => AB.contains c) = fun c : UInt8 => nmB c.toNat := funext ab_con
  refine calls_go 4000 okT Try.func64 rfl (rs := [.tmp 2, .tmp 3]) rfl Try.ntmps64 (args := [.string ⟨s.toArray⟩]) ?_
  simp (config := { maxSteps := 1000000 }) (disch := first | omega | (simp only [sizeAlloc, sizeDrew, sizeSet, sizePut] <;> omega) | fail) only [GS1, GS2, GS3, GS4, GS5, GS6, GS7, GS8, GS9, GS10, GS11, TT_eq, TTl, Nat.reduceAdd, Nat.reduceMul, Nat.reduceSub, Nat.reduceDiv, Nat.reduceMod, Nat.reducePow, Nat.reduceEqDiff, ↓reduceIte, reduceCtorEq, true_and, and_true, and_self, false_and, and_false, Int.reduceToNat, Int.reduceAdd, Int.reduceSub, Int.reduceMul, cond_true, cond_false, List.toList_toArray, Option.map_some, Option.map_none, Option.some.injEq, List.cons_append, List.nil_append, List.length_cons, List.length_nil, List.getD_cons_zero, List.getD_cons_succ]
  refine ⟨fok93, rFront_cps s AB hs' (by decide) _ _ fun w0 hM0 => .inl ⟨_, rfl, hold_ops okT (rs := [.tmp 2, .tmp 3]) rfl ?_⟩⟩
  rw [e1]
  have hle : (s.takeWhile fun c => nmB c.toNat).length ≤ s.length := List.IsPrefix.length_le (List.takeWhile_prefix _)
  have ht : s.take (s.takeWhile fun c => nmB c.toNat).length = nmS s := take_tw _ _
  rw [show (s.takeWhile fun c => nmB c.toNat) = nmS s from rfl] at ht hle ⊢
  simp (config := { maxSteps := 1000000 }) (disch := first | omega | (simp only [sizeAlloc, sizeDrew, sizeSet, sizePut] <;> omega) | fail) only [GS1, GS2, GS3, GS4, GS5, GS6, GS7, GS8, GS9, GS10, GS11, TT_eq, TTl, Nat.reduceAdd, Nat.reduceMul, Nat.reduceSub, Nat.reduceDiv, Nat.reduceMod, Nat.reducePow, Nat.reduceEqDiff, ↓reduceIte, reduceCtorEq, true_and, and_true, and_self, false_and, and_false, Int.reduceToNat, Int.reduceAdd, Int.reduceSub, Int.reduceMul, cond_true, cond_false, List.toList_toArray, Option.map_some, Option.map_none, Option.some.injEq, List.cons_append, List.nil_append, List.length_cons, List.length_nil, List.getD_cons_zero, List.getD_cons_succ, ht]
  refine ⟨fok94, rAtom_cps (nmS s) (by omega) _ _ fun w1 hM => .inl ⟨_, rfl, hold_ops okT (rs := [.tmp 2, .tmp 3]) rfl ?_⟩⟩
  generalize atomS (nmS s) = P at *
  obtain ⟨tt, ee⟩ := P
  unfold stV
  simp (config := { maxSteps := 1000000 }) (disch := first | omega | (simp only [sizeAlloc, sizeDrew, sizeSet, sizePut] <;> omega) | fail) only [GS1, GS2, GS3, GS4, GS5, GS6, GS7, GS8, GS9, GS10, GS11, TT_eq, TTl, Nat.reduceAdd, Nat.reduceMul, Nat.reduceSub, Nat.reduceDiv, Nat.reduceMod, Nat.reducePow, Nat.reduceEqDiff, ↓reduceIte, reduceCtorEq, true_and, and_true, and_self, false_and, and_false, Int.reduceToNat, Int.reduceAdd, Int.reduceSub, Int.reduceMul, cond_true, cond_false, List.toList_toArray, Option.map_some, Option.map_none, Option.some.injEq, List.cons_append, List.nil_append, List.length_cons, List.length_nil, List.getD_cons_zero, List.getD_cons_succ]
  exact hR _ (hM0.trans hM (by simp))
set_option maxHeartbeats 4000000 in
theorem rPlainS_cps (s : List UInt8) (hs : s.length ≤ maxLen) (w : World) (R : Ending → World → Prop) (hR : ∀ w', Mod [] w w' → R (.returned (.bool (plainS s))) w') : Calls Try.prog 21 #[.string ⟨s.toArray⟩] w R := by
  unfold plainS at hR
  unfold maxLen at hs
  refine calls_go 4000 okT Try.func21 rfl (rs := [.tmp 2]) rfl Try.ntmps21 (args := [.string ⟨s.toArray⟩]) ?_
  simp (config := { maxSteps := 1000000 }) (disch := first | omega | (simp only [sizeAlloc, sizeDrew, sizeSet, sizePut] <;> omega) | fail) only [GS1, GS2, GS3, GS4, GS5, GS6, GS7, GS8, GS9, GS10, GS11, TT_eq, TTl, Nat.reduceAdd, Nat.reduceMul, Nat.reduceSub, Nat.reduceDiv, Nat.reduceMod, Nat.reducePow, Nat.reduceEqDiff, ↓reduceIte, reduceCtorEq, true_and, and_true, and_self, false_and, and_false, Int.reduceToNat, Int.reduceAdd, Int.reduceSub, Int.reduceMul, cond_true, cond_false, List.toList_toArray, Option.map_some, Option.map_none, Option.some.injEq, List.cons_append, List.nil_append, List.length_cons, List.length_nil, List.getD_cons_zero, List.getD_cons_succ]
  refine hold_range okT rfl rfl rfl (hold_ops okT (rs := [.tmp 2]) rfl ?_)
  simp (config := { maxSteps := 1000000 }) (disch := first | omega | (simp only [sizeAlloc, sizeDrew, sizeSet, sizePut] <;> omega) | fail) only [GS1, GS2, GS3, GS4, GS5, GS6, GS7, GS8, GS9, GS10, GS11, TT_eq, TTl, Nat.reduceAdd, Nat.reduceMul, Nat.reduceSub, Nat.reduceDiv, Nat.reduceMod, Nat.reducePow, Nat.reduceEqDiff, ↓reduceIte, reduceCtorEq, true_and, and_true, and_self, false_and, and_false, Int.reduceToNat, Int.reduceAdd, Int.reduceSub, Int.reduceMul, cond_true, cond_false, List.toList_toArray, Option.map_some, Option.map_none, Option.some.injEq, List.cons_append, List.nil_append, List.length_cons, List.length_nil, List.getD_cons_zero, List.getD_cons_succ]
  refine hold_loop okT (rs := [.tmp 2]) rfl [] [2, 4, 7, 8, 9, 10, 11, 12] (fun vs w' => vs = [] ∧ ∃ pos f : Nat, pos ≤ s.length ∧ s.length - pos ≤ f ∧ whlS plB s = pos + whlF plB f (s.drop pos) ∧ w'.heap[w.heap.size]? = some (.stringIter ⟨s.toArray⟩ pos) ∧ Mod [] w w') (fun _ w' => match w'.heap[w.heap.size]? with | some (.stringIter _ p) => s.length - p | _ => 0) (by kernel_rfl)
    ⟨rfl, 0, s.length, by omega, by omega, by rw [List.drop_zero, Nat.zero_add]; rfl, heapNew, (Mod.refl _ _).alloc _⟩ ?_
  rintro vs w1 J ⟨rfl, pos, f, hle, hf, hwh, hit, hM⟩
  simp (config := { maxSteps := 1000000 }) (disch := first | omega | (simp only [sizeAlloc, sizeDrew, sizeSet, sizePut] <;> omega) | fail) only [GS1, GS2, GS3, GS4, GS5, GS6, GS7, GS8, GS9, GS10, GS11, TT_eq, TTl, Nat.reduceAdd, Nat.reduceMul, Nat.reduceSub, Nat.reduceDiv, Nat.reduceMod, Nat.reducePow, Nat.reduceEqDiff, ↓reduceIte, reduceCtorEq, true_and, and_true, and_self, false_and, and_false, Int.reduceToNat, Int.reduceAdd, Int.reduceSub, Int.reduceMul, cond_true, cond_false, List.toList_toArray, Option.map_some, Option.map_none, Option.some.injEq, List.cons_append, List.nil_append, List.length_cons, List.length_nil, List.getD_cons_zero, List.getD_cons_succ]
  by_cases hp : pos < s.length
  · refine hold_next rfl rfl hit hp ?_
    rw [dec_drop]
    obtain ⟨f, rfl⟩ : ∃ f', f = f' + 1 := ⟨f - 1, by omega⟩
    unfold whlF at hwh
    have hdl : (s.drop pos).length = s.length - pos := List.length_drop
    rw [if_neg (by omega)] at hwh
    have h1 := decL_pos (l := s.drop pos) (by omega)
    have h2 := decL_max (s.drop pos)
    generalize decodeL (s.drop pos) = d at hwh h1 h2 ⊢
    obtain ⟨x, n⟩ := d
    simp only at hwh h1 h2
    refine hold_ops okT (rs := [.tmp 2]) rfl ?_
    simp (config := { maxSteps := 1000000 }) (disch := first | omega | (simp only [sizeAlloc, sizeDrew, sizeSet, sizePut] <;> omega) | fail) only [GS1, GS2, GS3, GS4, GS5, GS6, GS7, GS8, GS9, GS10, GS11, TT_eq, TTl, Nat.reduceAdd, Nat.reduceMul, Nat.reduceSub, Nat.reduceDiv, Nat.reduceMod, Nat.reducePow, Nat.reduceEqDiff, ↓reduceIte, reduceCtorEq, true_and, and_true, and_self, false_and, and_false, Int.reduceToNat, Int.reduceAdd, Int.reduceSub, Int.reduceMul, cond_true, cond_false, List.toList_toArray, Option.map_some, Option.map_none, Option.some.injEq, List.cons_append, List.nil_append, List.length_cons, List.length_nil, List.getD_cons_zero, List.getD_cons_succ]
    refine ⟨fok47, rPlainC_cps x h2 _ _ (.inl ⟨_, rfl, hold_ops okT (rs := [.tmp 2]) rfl ?_⟩)⟩
    have hM1 := hM.put (l := w.heap.size) (.inr (Nat.le_refl _)) (.stringIter ⟨s.toArray⟩ (pos + n))
    have hit1 : (w1.putObj w.heap.size (.stringIter ⟨s.toArray⟩ (pos + n))).heap[w.heap.size]? = some (.stringIter ⟨s.toArray⟩ (pos + n)) := by
      simp only [World.putObj, Array.getElem?_setIfInBounds]; rw [if_pos trivial, if_pos (ltOf hit)]
    generalize plB x = b at hwh ⊢
    cases b
    · rw [if_neg (by simp), Nat.add_zero] at hwh
      rw [hwh, decide_eq_false (show ¬ pos = s.length by omega)] at hR
      simp (config := { maxSteps := 1000000 }) (disch := first | omega | (simp only [sizeAlloc, sizeDrew, sizeSet, sizePut] <;> omega) | fail) only [GS1, GS2, GS3, GS4, GS5, GS6, GS7, GS8, GS9, GS10, GS11, TT_eq, TTl, Nat.reduceAdd, Nat.reduceMul, Nat.reduceSub, Nat.reduceDiv, Nat.reduceMod, Nat.reducePow, Nat.reduceEqDiff, ↓reduceIte, reduceCtorEq, true_and, and_true, and_self, false_and, and_false, Int.reduceToNat, Int.reduceAdd, Int.reduceSub, Int.reduceMul, cond_true, cond_false, List.toList_toArray, Option.map_some, Option.map_none, Option.some.injEq, List.cons_append, List.nil_append, List.length_cons, List.length_nil, List.getD_cons_zero, List.getD_cons_succ]
      exact hR _ hM1
    · rw [if_pos rfl] at hwh
      simp (config := { maxSteps := 1000000 }) (disch := first | omega | (simp only [sizeAlloc, sizeDrew, sizeSet, sizePut] <;> omega) | fail) only [GS1, GS2, GS3, GS4, GS5, GS6, GS7, GS8, GS9, GS10, GS11, TT_eq, TTl, Nat.reduceAdd, Nat.reduceMul, Nat.reduceSub, Nat.reduceDiv, Nat.reduceMod, Nat.reducePow, Nat.reduceEqDiff, ↓reduceIte, reduceCtorEq, true_and, and_true, and_self, false_and, and_false, Int.reduceToNat, Int.reduceAdd, Int.reduceSub, Int.reduceMul, cond_true, cond_false, List.toList_toArray, Option.map_some, Option.map_none, Option.some.injEq, List.cons_append, List.nil_append, List.length_cons, List.length_nil, List.getD_cons_zero, List.getD_cons_succ]
      refine ⟨⟨pos + n, f, by omega, by omega, ?_, hit1, hM1⟩, ?_⟩
      · rw [hwh, List.drop_drop, Nat.add_assoc]
      · rw [hit1, hit]
        show s.length - (pos + n) < s.length - pos
        omega
  · refine hold_over rfl rfl hit hp ?_
    refine hold_ops okT (rs := [.tmp 2]) rfl ?_
    have e : pos = s.length := by omega
    subst e
    have : whlF plB f (s.drop s.length) = 0 := by
      rw [List.drop_length]
      cases f <;> simp [whlF]
    rw [this, Nat.add_zero] at hwh
    rw [hwh, decide_eq_true rfl] at hR
    simp (config := { maxSteps := 1000000 }) (disch := first | omega | (simp only [sizeAlloc, sizeDrew, sizeSet, sizePut] <;> omega) | fail) only [GS1, GS2, GS3, GS4, GS5, GS6, GS7, GS8, GS9, GS10, GS11, TT_eq, TTl, Nat.reduceAdd, Nat.reduceMul, Nat.reduceSub, Nat.reduceDiv, Nat.reduceMod, Nat.reducePow, Nat.reduceEqDiff, ↓reduceIte, reduceCtorEq, true_and, and_true, and_self, false_and, and_false, Int.reduceToNat, Int.reduceAdd, Int.reduceSub, Int.reduceMul, cond_true, cond_false, List.toList_toArray, Option.map_some, Option.map_none, Option.some.injEq, List.cons_append, List.nil_append, List.length_cons, List.length_nil, List.getD_cons_zero, List.getD_cons_succ]
    exact hR _ hM
end Go.Proofs.Ytpcmebcfgmoipaa
