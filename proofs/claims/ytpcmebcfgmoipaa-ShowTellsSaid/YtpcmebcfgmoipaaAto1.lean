/-
  show.Atoms (walk).
-/
import Derived.Test.YtpcmebcfgmoipaaSub1
import Derived.Test.YtpcmebcfgmoipaaCmp
set_option linter.unusedSimpArgs false
set_option linter.unusedVariables false
namespace Go.Proofs.Ytpcmebcfgmoipaa
open Go Go.Wk Go.RowKit
attribute [local irreducible] go Hold
open Go.Lib
def atomsS (S : List UInt8) : List (List UInt8) := ((subsS S).filter fun s => decide (kindS s = 2)).map fun s => (textS s).1
theorem mem_ded (x : List UInt8) : ∀ (l acc : List (List UInt8)), x ∈ dedL acc l ↔ x ∈ acc ∨ x ∈ l
  | [], acc => by unfold dedL; simp
  | y :: l, acc => by
    have e : dedL acc (y :: l) = dedL (if y ∈ acc then acc else acc ++ [y]) l := rfl
    rw [e, mem_ded x l]
    by_cases h : y ∈ acc
    · rw [if_pos h]
      simp only [List.mem_cons]
      constructor
      · rintro (h1 | h1)
        · exact .inl h1
        · exact .inr (.inr h1)
      · rintro (h1 | rfl | h1)
        · exact .inl h1
        · exact .inl h
        · exact .inr h1
    · rw [if_neg h]
      simp only [List.mem_append, List.mem_cons, List.not_mem_nil, or_false]
      constructor
      · rintro ((h1 | h1) | h1)
        · exact .inl h1
        · exact .inr (.inl h1)
        · exact .inr (.inr h1)
      · rintro (h1 | h1 | h1)
        · exact .inl (.inl h1)
        · exact .inl (.inr h1)
        · exact .inr h1
theorem mem_subs {S x : List UInt8} : x ∈ subsS S ↔ checkS S = 0 ∧ ∃ p ∈ placesS S, cutS S p = x := by
  unfold subsS
  by_cases h : checkS S = 0
  · rw [if_pos h, mem_ded]
    simp [h]
  · rw [if_neg h]
    simp [h]
theorem subs_in {S x : List UInt8} : x ∈ subsS S ↔ checkS S = 0 ∧ inS' S x = true := by
  rw [mem_subs]
  unfold inS'
  rw [List.any_eq_true]
  simp
theorem subs_sz {S x : List UInt8} (h : x ∈ subsS S) : x.length ≤ S.length := by
  obtain ⟨_, p, _, rfl⟩ := mem_subs.1 h
  unfold cutS
  rw [List.length_take, List.length_drop]
  omega
theorem subs_num (S : List UInt8) : (subsS S).length ≤ 16384 := by
  unfold subsS
  by_cases h : checkS S = 0
  · rw [if_pos h]
    have h1 := dedL_len ((placesS S).map (cutS S)) []
    have h2 := placesS_len S
    have h3 := (check0 h).2.2.1
    simp only [List.length_map, List.length_nil] at h1
    omega
  · rw [if_neg h]; simp
set_option maxRecDepth 20000 in
set_option maxHeartbeats 8000000 in
theorem sAtoms_cps (S : List UInt8) (hS : S.length ≤ maxLen) (w : World) (R : Ending → World → Prop) (hR : ∀ sv w', w'.ownsRow w.heap.size 9 1 sv (atomsS S).length ((atomsS S).map strV) → Mod [] w w' → R (.returned sv) w') :
    Calls Try.prog 18 #[.string ⟨S.toArray⟩] w R := by
  unfold atomsS at hR
  refine calls_go 4000 okT Try.func18 rfl (rs := [.tmp 2]) rfl Try.ntmps18 (args := [.string ⟨S.toArray⟩]) ?_
  simp (config := { maxSteps := 1000000 }) (disch := first | omega | (simp only [sizeAlloc, sizeDrew, sizeSet, sizePut] <;> omega) | fail) only [GS1, GS2, GS3, GS4, GS5, GS6, GS7, GS8, GS9, GS10, GS11, TT_eq, TTl, Nat.reduceAdd, Nat.reduceMul, Nat.reduceSub, Nat.reduceDiv, Nat.reduceMod, Nat.reducePow, Nat.reduceEqDiff, ↓reduceIte, reduceCtorEq, true_and, and_true, and_self, false_and, and_false, Int.reduceToNat, Int.reduceAdd, Int.reduceSub, Int.reduceMul, cond_true, cond_false, List.toList_toArray, Option.map_some, Option.map_none, Option.some.injEq, List.cons_append, List.nil_append, List.length_cons, List.length_nil, List.getD_cons_zero, List.getD_cons_succ]
  refine ⟨fok41, tSubs_cps S hS _ _ fun lv w1 hown1 hM1 => .inl ⟨_, rfl, hold_ops okT (rs := [.tmp 2]) rfl ?_⟩⟩
  have hsz : ∀ x ∈ subsS S, x.length ≤ maxLen := fun x hx => Nat.le_trans (subs_sz hx) hS
  have hnum := subs_num S
  generalize subsS S = L at *
  obtain ⟨la, lc, rfl⟩ := (Rd.own hown1).slice
  simp (config := { maxSteps := 1000000 }) (disch := first | omega | (simp only [sizeAlloc, sizeDrew, sizeSet, sizePut] <;> omega) | fail) only [GS1, GS2, GS3, GS4, GS5, GS6, GS7, GS8, GS9, GS10, GS11, TT_eq, TTl, Nat.reduceAdd, Nat.reduceMul, Nat.reduceSub, Nat.reduceDiv, Nat.reduceMod, Nat.reducePow, Nat.reduceEqDiff, ↓reduceIte, reduceCtorEq, true_and, and_true, and_self, false_and, and_false, Int.reduceToNat, Int.reduceAdd, Int.reduceSub, Int.reduceMul, cond_true, cond_false, List.toList_toArray, Option.map_some, Option.map_none, Option.some.injEq, List.cons_append, List.nil_append, List.length_cons, List.length_nil, List.getD_cons_zero, List.getD_cons_succ]
  refine hold_loop okT (rs := [.tmp 2]) rfl [2, 10] [4, 5, 6, 11, 12, 13, 14, 15, 16, 17, 18, 19, 20, 21, 22, 23, 24, 25, 26] (fun vs w' => ∃ (k : Nat) (sv : Value), vs = [sv, .int .i64 k] ∧ k ≤ L.length ∧ w'.ownsRow w1.heap.size 9 1 sv (((L.take k).filter fun s => decide (kindS s = 2)).map fun s => (textS s).1).length ((((L.take k).filter fun s => decide (kindS s = 2)).map fun s => (textS s).1).map strV) ∧ Mod [] w1 w') (fun vs _ => match vs with | [_, .int _ i] => L.length - i.toNat | _ => 0) (by kernel_rfl) ⟨0, _, rfl, by omega, World.ownsRow_nil _ _ _ _, Mod.refl _ _⟩ ?_
  rintro vs w2 J ⟨k, sv, rfl, hk, hown, hM⟩
  have hrd := (Rd.own hown1).mod hM (by simp)
  have hfl : ((L.take k).filter fun s => decide (kindS s = 2)).length ≤ k := Nat.le_trans (List.length_filter_le _ _) (by rw [List.length_take]; omega)
  have hcl := ownsRow_one hown
  obtain ⟨sa, sc, rfl⟩ := (Rd.own hown).slice
  by_cases hlt : k < L.length
  · have hx := hsz _ (List.getElem_mem hlt)
    obtain ⟨b1, o1, c1, e1, _, g1⟩ := hrd.at (by omega) (by omega)
    have f1 : w2.cell? ⟨b1, o1 + k, none⟩ = some (.string ⟨(L[k]).toArray⟩) := g1 k _ (getS hlt)
    rw [Value.slice.injEq] at e1
    obtain ⟨rfl, -, -⟩ := e1
    have hft : (L.take (k + 1)).filter (fun s => decide (kindS s = 2)) = (L.take k).filter (fun s => decide (kindS s = 2)) ++ (if kindS L[k] = 2 then [L[k]] else []) := by
      rw [List.take_add_one, List.getElem?_eq_getElem hlt, List.filter_append]
      congr 1
      by_cases h : kindS L[k] = 2 <;> simp [h]
    generalize L[k] = x at *
    simp (config := { maxSteps := 1000000 }) (disch := first | omega | (simp only [sizeAlloc, sizeDrew, sizeSet, sizePut] <;> omega) | fail) only [GS1, GS2, GS3, GS4, GS5, GS6, GS7, GS8, GS9, GS10, GS11, TT_eq, TTl, Nat.reduceAdd, Nat.reduceMul, Nat.reduceSub, Nat.reduceDiv, Nat.reduceMod, Nat.reducePow, Nat.reduceEqDiff, ↓reduceIte, reduceCtorEq, true_and, and_true, and_self, false_and, and_false, Int.reduceToNat, Int.reduceAdd, Int.reduceSub, Int.reduceMul, cond_true, cond_false, List.toList_toArray, Option.map_some, Option.map_none, Option.some.injEq, List.cons_append, List.nil_append, List.length_cons, List.length_nil, List.getD_cons_zero, List.getD_cons_succ, f1]
    refine ⟨fok25, tKind_cps x hx _ _ fun w3 hM3 => .inl ⟨_, rfl, hold_ops okT (rs := [.tmp 2]) rfl ?_⟩⟩
    have hown3 := ownsRow_mod hown hM3 (by simp)
    have hM03 := hM.trans hM3 (by simp)
    by_cases hk2 : kindS x = 2
    · rw [if_pos hk2] at hft
      simp (config := { maxSteps := 1000000 }) (disch := first | omega | (simp only [sizeAlloc, sizeDrew, sizeSet, sizePut] <;> omega) | fail) only [GS1, GS2, GS3, GS4, GS5, GS6, GS7, GS8, GS9, GS10, GS11, TT_eq, TTl, Nat.reduceAdd, Nat.reduceMul, Nat.reduceSub, Nat.reduceDiv, Nat.reduceMod, Nat.reducePow, Nat.reduceEqDiff, ↓reduceIte, reduceCtorEq, true_and, and_true, and_self, false_and, and_false, Int.reduceToNat, Int.reduceAdd, Int.reduceSub, Int.reduceMul, cond_true, cond_false, List.toList_toArray, Option.map_some, Option.map_none, Option.some.injEq, List.cons_append, List.nil_append, List.length_cons, List.length_nil, List.getD_cons_zero, List.getD_cons_succ]
      refine ⟨fok26, tText_cps x hx _ _ fun w4 hM4 => .inl ⟨_, rfl, hold_ops okT (rs := [.tmp 2]) rfl ?_⟩⟩
      have hown4 := ownsRow_mod hown3 hM4 (by simp)
      have hM04 := hM03.trans hM4 (by simp)
      rw [List.length_map] at hown4 ⊢
      simp (config := { maxSteps := 1000000 }) (disch := first | omega | (simp only [sizeAlloc, sizeDrew, sizeSet, sizePut] <;> omega) | fail) only [GS1, GS2, GS3, GS4, GS5, GS6, GS7, GS8, GS9, GS10, GS11, TT_eq, TTl, Nat.reduceAdd, Nat.reduceMul, Nat.reduceSub, Nat.reduceDiv, Nat.reduceMod, Nat.reducePow, Nat.reduceEqDiff, ↓reduceIte, reduceCtorEq, true_and, and_true, and_self, false_and, and_false, Int.reduceToNat, Int.reduceAdd, Int.reduceSub, Int.reduceMul, cond_true, cond_false, List.toList_toArray, Option.map_some, Option.map_none, Option.some.injEq, List.cons_append, List.nil_append, List.length_cons, List.length_nil, List.getD_cons_zero, List.getD_cons_succ]
      refine hold_append1 okT rfl rfl rfl rfl rfl w1.heap.size hown4 rfl rfl (u := .string ⟨(textS x).1.toArray⟩) rfl (by simp only; omega) (by unfold maxLen; omega) hM04.size fun v' w5 hown5 hM5 _ => hold_ops okT (rs := [.tmp 2]) rfl ?_
      have hob : ∀ y ∈ (Value.slice sa ((L.take k).filter fun s => decide (kindS s = 2)).length sc).ownBlock.toList, w1.heap.size ≤ y := fun y hy => (hown4.lt y (by simpa using hy)).1
      have hM05 := hM04.trans hM5 (fun y hy => .inr (hob y hy))
      simp (config := { maxSteps := 1000000 }) (disch := first | omega | (simp only [sizeAlloc, sizeDrew, sizeSet, sizePut] <;> omega) | fail) only [GS1, GS2, GS3, GS4, GS5, GS6, GS7, GS8, GS9, GS10, GS11, TT_eq, TTl, Nat.reduceAdd, Nat.reduceMul, Nat.reduceSub, Nat.reduceDiv, Nat.reduceMod, Nat.reducePow, Nat.reduceEqDiff, ↓reduceIte, reduceCtorEq, true_and, and_true, and_self, false_and, and_false, Int.reduceToNat, Int.reduceAdd, Int.reduceSub, Int.reduceMul, cond_true, cond_false, List.toList_toArray, Option.map_some, Option.map_none, Option.some.injEq, List.cons_append, List.nil_append, List.length_cons, List.length_nil, List.getD_cons_zero, List.getD_cons_succ]
      refine ⟨⟨k + 1, _, rfl, by omega, ?_, hM05⟩, by omega⟩
      rw [hft, List.map_append, List.map_append, List.length_append, List.length_map]
      exact hown5
    · rw [if_neg hk2, List.append_nil] at hft
      simp (config := { maxSteps := 1000000 }) (disch := first | omega | (simp only [sizeAlloc, sizeDrew, sizeSet, sizePut] <;> omega) | fail) only [GS1, GS2, GS3, GS4, GS5, GS6, GS7, GS8, GS9, GS10, GS11, TT_eq, TTl, Nat.reduceAdd, Nat.reduceMul, Nat.reduceSub, Nat.reduceDiv, Nat.reduceMod, Nat.reducePow, Nat.reduceEqDiff, ↓reduceIte, reduceCtorEq, true_and, and_true, and_self, false_and, and_false, Int.reduceToNat, Int.reduceAdd, Int.reduceSub, Int.reduceMul, cond_true, cond_false, List.toList_toArray, Option.map_some, Option.map_none, Option.some.injEq, List.cons_append, List.nil_append, List.length_cons, List.length_nil, List.getD_cons_zero, List.getD_cons_succ]
      refine ⟨⟨k + 1, _, rfl, by omega, ?_, hM03⟩, by omega⟩
      rw [hft]
      exact hown3
  · have e : k = L.length := by omega
    subst e
    rw [List.take_length] at hown ⊢
    simp (config := { maxSteps := 1000000 }) (disch := first | omega | (simp only [sizeAlloc, sizeDrew, sizeSet, sizePut] <;> omega) | fail) only [GS1, GS2, GS3, GS4, GS5, GS6, GS7, GS8, GS9, GS10, GS11, TT_eq, TTl, Nat.reduceAdd, Nat.reduceMul, Nat.reduceSub, Nat.reduceDiv, Nat.reduceMod, Nat.reducePow, Nat.reduceEqDiff, ↓reduceIte, reduceCtorEq, true_and, and_true, and_self, false_and, and_false, Int.reduceToNat, Int.reduceAdd, Int.reduceSub, Int.reduceMul, cond_true, cond_false, List.toList_toArray, Option.map_some, Option.map_none, Option.some.injEq, List.cons_append, List.nil_append, List.length_cons, List.length_nil, List.getD_cons_zero, List.getD_cons_succ]
    exact hR _ _ (ownsRow_base hown hM1.size) (hM1.trans hM (by simp))
end Go.Proofs.Ytpcmebcfgmoipaa
