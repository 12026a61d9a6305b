/-
  The keys of one, and of a set (walks).
-/
import Derived.Test.YtbdiihilbcinpaaDoorKey3
set_option linter.unusedSimpArgs false
set_option linter.unusedVariables false
namespace Go.Proofs.YtbdiihilbcinpaaDoor
open Go Go.Wk Go.RowKit
attribute [local irreducible] go Hold
/-- Of the pairs of n those behind a that have a, from b on; those of which both are a or more. -/
def rowL (n a b : Nat) : List (Nat × Nat) := (List.range' b (n - b)).map fun y => (a, y)
def allL (n a : Nat) : List (Nat × Nat) := (List.range' a (n - a)).flatMap fun x => rowL n x x
theorem rowL_cons {n a b : Nat} (h : b < n) : rowL n a b = (a, b) :: rowL n a (b + 1) := by
  unfold rowL
  rw [show n - b = (n - (b + 1)) + 1 from by omega, List.range'_succ, List.map_cons]
theorem rowL_nil (n a : Nat) : rowL n a n = [] := by unfold rowL; rw [Nat.sub_self]; rfl
theorem allL_cons {n a : Nat} (h : a < n) : allL n a = rowL n a a ++ allL n (a + 1) := by
  unfold allL
  rw [show n - a = (n - (a + 1)) + 1 from by omega, List.range'_succ, List.flatMap_cons]
theorem allL_nil (n : Nat) : allL n n = [] := by unfold allL; rw [Nat.sub_self]; rfl
theorem mem_allL {n a b : Nat} : (a, b) ∈ allL n 0 ↔ a ≤ b ∧ b < n := by
  unfold allL rowL
  simp only [List.mem_flatMap, List.mem_map, List.mem_range'_1, Prod.mk.injEq]
  constructor
  · rintro ⟨x, hx, y, hy, rfl, rfl⟩; omega
  · intro h; exact ⟨a, by omega, b, by omega, rfl, rfl⟩
/-- The keys of pairs of which one is in a set. -/
def kl (v : Nat) (p : Nat × Nat) : List (List UInt8) := if inS v p.1 || inS v p.2 then [keyL 1 p.1 p.2, keyL 2 p.1 p.2] else []
def KL (v : Nat) (ps : List (Nat × Nat)) : List (List UInt8) := ps.flatMap (kl v)
theorem KL_len (v : Nat) (ps : List (Nat × Nat)) : (KL v ps).length ≤ 2 * ps.length := by
  unfold KL
  induction ps with
  | nil => simp
  | cons p ps ih =>
    simp only [List.flatMap_cons, List.length_append, List.length_cons]
    have : (kl v p).length ≤ 2 := by unfold kl; split <;> simp
    omega
theorem allL_len {n : Nat} (h : n ≤ 8) : (allL n 0).length ≤ 100 := by
  rcases n with _ | _ | _ | _ | _ | _ | _ | _ | _ | n <;> first | decide | omega
theorem pairs_cps (n : Int) (w : World) (R : Ending → World → Prop)
    (hR : R (.returned (.func (.func 32) #[] #[.pointer (some ⟨w.heap.size, 0, none⟩)])) (w.alloc (.cells #[.int .i64 n] 3))) :
    Calls Tryd.prog 26 #[.int .i64 n] w R := by
  refine calls_go 4000 okT Tryd.func26 rfl (rs := [.tmp 2]) rfl Tryd.ntmps26 (args := [.int .i64 n]) ?_
  simp (config := { maxSteps := 1000000 }) (disch := first | omega | (simp only [sizeAlloc, sizeDrew, sizeSet, sizePut] <;> omega) | fail) only [GS1, GS2, GS3, GS4, GS5, GS6, GS7, GS8, GS9, GS10, TT_eq, TTl, Nat.reduceAdd, Nat.reduceMul, Nat.reduceSub, Nat.reduceDiv, Nat.reduceMod, Nat.reducePow, Nat.reduceEqDiff, ↓reduceIte, reduceCtorEq, true_and, and_true, and_self, false_and, and_false, Int.reduceToNat, Int.reduceAdd, Int.reduceSub, Int.reduceMul, cond_true, cond_false, List.toList_toArray, Option.map_some, Option.map_none, Option.some.injEq, List.cons_append, List.nil_append, List.length_cons, List.length_nil, List.getD_cons_zero, List.getD_cons_succ]
  exact hR
set_option maxRecDepth 20000 in
set_option maxHeartbeats 1000000 in
theorem pairs1_cps (bx l n : Nat) (hn : n ≤ 8) (w : World) (R : Ending → World → Prop)
    (Inv : List (Nat × Nat) → World → Prop) (h0 : Inv (allL n 0) w) (hdone : ∀ w, Inv [] w → R (.returned (.tuple #[])) w)
    (hbx : ∀ r w, Inv r w → w.heap[bx]? = some (.cells #[.int .i64 n] 3 (0, 0)))
    (hstep : ∀ (a b : Nat) r w, a ≤ b → b < n → Inv ((a, b) :: r) w → yieldW Tryd.prog l #[.int .i64 a, .int .i64 b] w (fun u w' => u = .bool true ∧ Inv r w') (fun _ _ => False)) :
    Calls Tryd.prog 32 #[.func (.yield l) #[] #[], .pointer (some ⟨bx, 0, none⟩)] w R := by
  have c0 := cellOf (o := 0) (hbx _ _ h0)
  refine calls_go 4000 okT Tryd.func32 rfl (rs := []) rfl Tryd.ntmps32 (args := [.func (.yield l) #[] #[], .pointer (some ⟨bx, 0, none⟩)]) ?_
  simp (config := { maxSteps := 1000000 }) (disch := first | omega | (simp only [sizeAlloc, sizeDrew, sizeSet, sizePut] <;> omega) | fail) only [GS1, GS2, GS3, GS4, GS5, GS6, GS7, GS8, GS9, GS10, TT_eq, TTl, Nat.reduceAdd, Nat.reduceMul, Nat.reduceSub, Nat.reduceDiv, Nat.reduceMod, Nat.reducePow, Nat.reduceEqDiff, ↓reduceIte, reduceCtorEq, true_and, and_true, and_self, false_and, and_false, Int.reduceToNat, Int.reduceAdd, Int.reduceSub, Int.reduceMul, cond_true, cond_false, List.toList_toArray, Option.map_some, Option.map_none, Option.some.injEq, List.cons_append, List.nil_append, List.length_cons, List.length_nil, List.getD_cons_zero, List.getD_cons_succ, c0]
  refine hold_loop okT (rs := []) rfl [6] [3, 4, 7, 8, 9, 10, 11, 12, 13, 14, 15, 16, 17, 18, 19, 20] (fun vs w => ∃ a : Nat, a ≤ n ∧ vs = [.int .i64 a] ∧ Inv (allL n a) w) (fun vs _ => match vs with | [.int _ i] => n - i.toNat | _ => 0) (by kernel_rfl) ⟨0, by omega, rfl, h0⟩ ?_
  rintro vs w1 J ⟨a, ha, rfl, hI⟩
  by_cases hlt : a < n
  · simp (config := { maxSteps := 1000000 }) (disch := first | omega | (simp only [sizeAlloc, sizeDrew, sizeSet, sizePut] <;> omega) | fail) only [GS1, GS2, GS3, GS4, GS5, GS6, GS7, GS8, GS9, GS10, TT_eq, TTl, Nat.reduceAdd, Nat.reduceMul, Nat.reduceSub, Nat.reduceDiv, Nat.reduceMod, Nat.reducePow, Nat.reduceEqDiff, ↓reduceIte, reduceCtorEq, true_and, and_true, and_self, false_and, and_false, Int.reduceToNat, Int.reduceAdd, Int.reduceSub, Int.reduceMul, cond_true, cond_false, List.toList_toArray, Option.map_some, Option.map_none, Option.some.injEq, List.cons_append, List.nil_append, List.length_cons, List.length_nil, List.getD_cons_zero, List.getD_cons_succ]
    rw [allL_cons hlt] at hI
    refine hold_loop okT (rs := []) rfl [4] [10, 11, 12, 13, 14, 15, 16, 17, 18, 19] (fun vs w => ∃ b : Nat, a ≤ b ∧ b ≤ n ∧ vs = [.int .i64 b] ∧ Inv (rowL n a b ++ allL n (a + 1)) w) (fun vs _ => match vs with | [.int _ i] => n - i.toNat | _ => 0) (by kernel_rfl) ⟨a, by omega, by omega, rfl, hI⟩ ?_
    rintro vs w2 J2 ⟨b, hab, hb, rfl, hI2⟩
    have c2 := cellOf (o := 0) (hbx _ _ hI2)
    by_cases hbn : b < n
    · rw [rowL_cons hbn, List.cons_append] at hI2
      simp (config := { maxSteps := 1000000 }) (disch := first | omega | (simp only [sizeAlloc, sizeDrew, sizeSet, sizePut] <;> omega) | fail) only [GS1, GS2, GS3, GS4, GS5, GS6, GS7, GS8, GS9, GS10, TT_eq, TTl, Nat.reduceAdd, Nat.reduceMul, Nat.reduceSub, Nat.reduceDiv, Nat.reduceMod, Nat.reducePow, Nat.reduceEqDiff, ↓reduceIte, reduceCtorEq, true_and, and_true, and_self, false_and, and_false, Int.reduceToNat, Int.reduceAdd, Int.reduceSub, Int.reduceMul, cond_true, cond_false, List.toList_toArray, Option.map_some, Option.map_none, Option.some.injEq, List.cons_append, List.nil_append, List.length_cons, List.length_nil, List.getD_cons_zero, List.getD_cons_succ, c2]
      refine yieldW_mono (hstep _ _ _ _ hab hbn hI2) ?_ (fun _ _ h => h.elim)
      rintro u w3 ⟨rfl, hI3⟩
      refine hold_ops okT (rs := []) rfl ?_
      simp (config := { maxSteps := 1000000 }) (disch := first | omega | (simp only [sizeAlloc, sizeDrew, sizeSet, sizePut] <;> omega) | fail) only [GS1, GS2, GS3, GS4, GS5, GS6, GS7, GS8, GS9, GS10, TT_eq, TTl, Nat.reduceAdd, Nat.reduceMul, Nat.reduceSub, Nat.reduceDiv, Nat.reduceMod, Nat.reducePow, Nat.reduceEqDiff, ↓reduceIte, reduceCtorEq, true_and, and_true, and_self, false_and, and_false, Int.reduceToNat, Int.reduceAdd, Int.reduceSub, Int.reduceMul, cond_true, cond_false, List.toList_toArray, Option.map_some, Option.map_none, Option.some.injEq, List.cons_append, List.nil_append, List.length_cons, List.length_nil, List.getD_cons_zero, List.getD_cons_succ]
      exact ⟨⟨b + 1, by omega, by omega, rfl, hI3⟩, by omega⟩
    · have e : b = n := by omega
      subst e
      rw [rowL_nil, List.nil_append] at hI2
      simp (config := { maxSteps := 1000000 }) (disch := first | omega | (simp only [sizeAlloc, sizeDrew, sizeSet, sizePut] <;> omega) | fail) only [GS1, GS2, GS3, GS4, GS5, GS6, GS7, GS8, GS9, GS10, TT_eq, TTl, Nat.reduceAdd, Nat.reduceMul, Nat.reduceSub, Nat.reduceDiv, Nat.reduceMod, Nat.reducePow, Nat.reduceEqDiff, ↓reduceIte, reduceCtorEq, true_and, and_true, and_self, false_and, and_false, Int.reduceToNat, Int.reduceAdd, Int.reduceSub, Int.reduceMul, cond_true, cond_false, List.toList_toArray, Option.map_some, Option.map_none, Option.some.injEq, List.cons_append, List.nil_append, List.length_cons, List.length_nil, List.getD_cons_zero, List.getD_cons_succ, c2]
      exact ⟨⟨a + 1, by omega, rfl, hI2⟩, by omega⟩
  · have e : a = n := by omega
    subst e
    rw [allL_nil] at hI
    simp (config := { maxSteps := 1000000 }) (disch := first | omega | (simp only [sizeAlloc, sizeDrew, sizeSet, sizePut] <;> omega) | fail) only [GS1, GS2, GS3, GS4, GS5, GS6, GS7, GS8, GS9, GS10, TT_eq, TTl, Nat.reduceAdd, Nat.reduceMul, Nat.reduceSub, Nat.reduceDiv, Nat.reduceMod, Nat.reducePow, Nat.reduceEqDiff, ↓reduceIte, reduceCtorEq, true_and, and_true, and_self, false_and, and_false, Int.reduceToNat, Int.reduceAdd, Int.reduceSub, Int.reduceMul, cond_true, cond_false, List.toList_toArray, Option.map_some, Option.map_none, Option.some.injEq, List.cons_append, List.nil_append, List.length_cons, List.length_nil, List.getD_cons_zero, List.getD_cons_succ]
    exact hdone _ hI
def KnI (v n : Nat) (w : World) (lp : Loop) (r : List (Nat × Nat)) (w' : World) : Prop :=
  ∃ done sv, done ++ r = allL n 0 ∧ w'.heap[w.heap.size]? = some (.cells #[.int .u8 v] 5 (0, 0)) ∧ w'.heap[w.heap.size + 1]? = some (.cells #[sv] 22 (0, 0)) ∧ w'.ownsRow (w.heap.size + 5) 9 1 sv (KL v done).length ((KL v done).map strV) ∧
    w'.heap[w.heap.size + 2]? = some (.cells #[.int .i64 n] 3 (0, 0)) ∧ w'.heap[w.heap.size + 3]? = some (.deferred (some [])) ∧ w'.heap[w.heap.size + 4]? = some (.loop lp) ∧ Mod [] w w' ∧ w.heap.size + 5 ≤ w'.heap.size ∧ sv.oneCell' = true
set_option maxRecDepth 20000 in
set_option maxHeartbeats 4000000 in
theorem Known_ok (v n : Nat) (hv : v < 256) (h1 : 1 ≤ n) (h8 : n ≤ 8) (w : World) (R : Ending → World → Prop) (hg : KG w)
    (hR : ∀ sv w', w'.ownsRow w.heap.size 9 1 sv (KL v (allL n 0)).length ((KL v (allL n 0)).map strV) → Mod [] w w' → R (.returned sv) w') :
    Calls Tryd.prog 17 #[.int .u8 v, .int .i64 n] w R := by
  have hw0 := hg.lt
  refine calls_go 4000 okT Tryd.func17 rfl (rs := [.cell 4 22]) rfl Tryd.ntmps17 (args := [.int .u8 v, .int .i64 n]) ?_
  simp (config := { maxSteps := 1000000 }) (disch := first | omega | (simp only [sizeAlloc, sizeDrew, sizeSet, sizePut] <;> omega) | fail) only [GS1, GS2, GS3, GS4, GS5, GS6, GS7, GS8, GS9, GS10, TT_eq, TTl, Nat.reduceAdd, Nat.reduceMul, Nat.reduceSub, Nat.reduceDiv, Nat.reduceMod, Nat.reducePow, Nat.reduceEqDiff, ↓reduceIte, reduceCtorEq, true_and, and_true, and_self, false_and, and_false, Int.reduceToNat, Int.reduceAdd, Int.reduceSub, Int.reduceMul, cond_true, cond_false, List.toList_toArray, Option.map_some, Option.map_none, Option.some.injEq, List.cons_append, List.nil_append, List.length_cons, List.length_nil, List.getD_cons_zero, List.getD_cons_succ]
  refine ⟨fok25, may_cps n _ _ (.inl ⟨_, rfl, hold_ops okT (rs := [.cell 4 22]) rfl ?_⟩)⟩
  rw [decide_eq_true ⟨by omega, by omega⟩]
  simp (config := { maxSteps := 1000000 }) (disch := first | omega | (simp only [sizeAlloc, sizeDrew, sizeSet, sizePut] <;> omega) | fail) only [GS1, GS2, GS3, GS4, GS5, GS6, GS7, GS8, GS9, GS10, TT_eq, TTl, Nat.reduceAdd, Nat.reduceMul, Nat.reduceSub, Nat.reduceDiv, Nat.reduceMod, Nat.reducePow, Nat.reduceEqDiff, ↓reduceIte, reduceCtorEq, true_and, and_true, and_self, false_and, and_false, Int.reduceToNat, Int.reduceAdd, Int.reduceSub, Int.reduceMul, cond_true, cond_false, List.toList_toArray, Option.map_some, Option.map_none, Option.some.injEq, List.cons_append, List.nil_append, List.length_cons, List.length_nil, List.getD_cons_zero, List.getD_cons_succ]
  refine ⟨fok26, pairs_cps _ _ _ (.inl ⟨_, rfl, hold_ops okT (rs := [.cell 4 22]) rfl ?_⟩)⟩
  simp (config := { maxSteps := 1000000 }) (disch := first | omega | (simp only [sizeAlloc, sizeDrew, sizeSet, sizePut] <;> omega) | fail) only [GS1, GS2, GS3, GS4, GS5, GS6, GS7, GS8, GS9, GS10, TT_eq, TTl, Nat.reduceAdd, Nat.reduceMul, Nat.reduceSub, Nat.reduceDiv, Nat.reduceMod, Nat.reducePow, Nat.reduceEqDiff, ↓reduceIte, reduceCtorEq, true_and, and_true, and_self, false_and, and_false, Int.reduceToNat, Int.reduceAdd, Int.reduceSub, Int.reduceMul, cond_true, cond_false, List.toList_toArray, Option.map_some, Option.map_none, Option.some.injEq, List.cons_append, List.nil_append, List.length_cons, List.length_nil, List.getD_cons_zero, List.getD_cons_succ]
  refine hold_rangeFunc rfl fok32 fun fid => ?_
  simp only [sizeAlloc, List.toList_toArray, List.nil_append, List.cons_append]
  refine pairs1_cps (w.heap.size + 1 + 1) (w.heap.size + 1 + 1 + 1 + 1) n h8 _ _ (KnI v n w _) ⟨[], .slice none 0 0, rfl, ?_, ?_, ?_, ?_, ?_, heapAe (by simp only [sizeAlloc]), ?_, ?_, rfl⟩ ?_ ?_ ?_
  · (simp only [heapA, sizeAlloc]; repeat (first | rfl | rw [if_neg (by omega)] | rw [if_pos (by omega)]))
  · (simp only [heapA, sizeAlloc]; repeat (first | rfl | rw [if_neg (by omega)] | rw [if_pos (by omega)]))
  · exact World.ownsRow_nil _ _ _ _
  · (simp only [heapA, sizeAlloc]; repeat (first | rfl | rw [if_neg (by omega)] | rw [if_pos (by omega)]))
  · (simp only [heapA, sizeAlloc]; repeat (first | rfl | rw [if_neg (by omega)] | rw [if_pos (by omega)]))
  · exact (((((Mod.refl _ _).alloc _).alloc _).alloc _).alloc _).alloc _
  · simp only [sizeAlloc]; omega
  · rintro w1 ⟨done, sv, hd, h0, hs, hown, h1, h2, h3, hM, hz, ho⟩
    rw [List.append_nil] at hd
    subst hd
    refine ⟨_, .normal, h3, by simp, rfl, hold_ex okT (rs := [.cell 4 22]) rfl ?_⟩
    generalize hW : w1.putObj (w.heap.size + 1 + 1 + 1 + 1) _ = w2
    have hM2 : Mod [w.heap.size + 4] w1 w2 := by rw [← hW]; exact (Mod.refl _ _).put (.inl (by simp <;> omega)) _
    have g0 := hM2.get hs (by simp <;> omega)
    have g2 := hM2.get h2 (by simp <;> omega)
    have hown2 := ownsRow_mod hown hM2 (by simp <;> omega)
    have hc := cellOf (o := 0) g0
    have hf := frozenOf (o := 0) g0
    simp (config := { maxSteps := 1000000 }) (disch := first | omega | (simp only [sizeAlloc, sizeDrew, sizeSet, sizePut] <;> omega) | fail) only [GS1, GS2, GS3, GS4, GS5, GS6, GS7, GS8, GS9, GS10, TT_eq, TTl, Nat.reduceAdd, Nat.reduceMul, Nat.reduceSub, Nat.reduceDiv, Nat.reduceMod, Nat.reducePow, Nat.reduceEqDiff, ↓reduceIte, reduceCtorEq, true_and, and_true, and_self, false_and, and_false, Int.reduceToNat, Int.reduceAdd, Int.reduceSub, Int.reduceMul, cond_true, cond_false, List.toList_toArray, Option.map_some, Option.map_none, Option.some.injEq, List.cons_append, List.nil_append, List.length_cons, List.length_nil, List.getD_cons_zero, List.getD_cons_succ, hc, hf, cellsL_one ho, ho]
    generalize hW3 : w2.setCell ⟨w.heap.size + 1, 0, none⟩ sv = w3
    have k0 : w3.heap[w.heap.size + 1]? = some (.cells #[sv] 22 (0, 0)) := by rw [← hW3]; exact heapSet g0
    have hM3 : Mod [w.heap.size + 1] w2 w3 := by rw [← hW3]; exact (Mod.refl _ _).set (.inl (by simp <;> omega)) _
    have hown3 := ownsRow_mod hown2 hM3 (by simp <;> omega)
    refine ⟨_, rfl, hM3.get g2 (by simp <;> omega), ?_⟩
    generalize hW4 : w3.putObj (w.heap.size + 1 + 1 + 1) _ = w4
    have hM4 : Mod [w.heap.size + 3] w3 w4 := by rw [← hW4]; exact (Mod.refl _ _).put (.inl (by simp <;> omega)) _
    have hown4 := ownsRow_mod hown3 hM4 (by simp <;> omega)
    have c4 := cellOf (o := 0) (hM4.get k0 (by simp <;> omega))
    simp (config := { maxSteps := 1000000 }) only [GS1, GS2, GS3, GS4, GS5, GS6, GS7, GS8, GS9, GS10, TT_eq, TTl, Nat.reduceAdd, Nat.reduceMul, Nat.reduceSub, Nat.reduceDiv, Nat.reduceMod, Nat.reducePow, Nat.reduceEqDiff, ↓reduceIte, reduceCtorEq, true_and, and_true, and_self, false_and, and_false, Int.reduceToNat, Int.reduceAdd, Int.reduceSub, Int.reduceMul, cond_true, cond_false, List.toList_toArray, Option.map_some, Option.map_none, Option.some.injEq, List.cons_append, List.nil_append, List.length_cons, List.length_nil, List.getD_cons_zero, List.getD_cons_succ, leaveW, loadW, c4]
    refine ⟨sv, rfl, hR sv w4 (by simpa using ownsRow_base hown4 (by omega)) ?_⟩
    exact ((hM.trans hM2 (by simp <;> omega)).trans hM3 (by simp <;> omega)).trans hM4 (by simp <;> omega)
  · rintro r w1 ⟨done, sv, hd, h0, hs, hown, h1, h2, h3, hM, hz, ho⟩
    exact h1
  · rintro a b r w1 hab hbn ⟨done, sv, hd, h0, hs, hown, h1, h2, h3, hM, hz, ho⟩
    refine yieldW_of h3 rfl (hold_code okT (rs := []) rfl ?_)
    simp (config := { maxSteps := 1000000 }) (disch := first | omega | (simp only [sizeAlloc, sizeDrew, sizeSet, sizePut] <;> omega) | fail) only [GS1, GS2, GS3, GS4, GS5, GS6, GS7, GS8, GS9, GS10, TT_eq, TTl, Nat.reduceAdd, Nat.reduceMul, Nat.reduceSub, Nat.reduceDiv, Nat.reduceMod, Nat.reducePow, Nat.reduceEqDiff, ↓reduceIte, reduceCtorEq, true_and, and_true, and_self, false_and, and_false, Int.reduceToNat, Int.reduceAdd, Int.reduceSub, Int.reduceMul, cond_true, cond_false, List.toList_toArray, Option.map_some, Option.map_none, Option.some.injEq, List.cons_append, List.nil_append, List.length_cons, List.length_nil, List.getD_cons_zero, List.getD_cons_succ]
    refine ⟨rfl, rfl, _, h3, rfl, hold_code okT (rs := []) rfl ?_⟩
    generalize hO : Obj.loop _ = o3
    generalize hW : w1.putObj (w.heap.size + 1 + 1 + 1 + 1) o3 = w2
    have hM2 : Mod [w.heap.size + 4] w1 w2 := by rw [← hW]; exact (Mod.refl _ _).put (.inl (by simp)) _
    have g0 := hM2.get h0 (by simp <;> omega)
    have gs := hM2.get hs (by simp <;> omega)
    have g1 := hM2.get h1 (by simp <;> omega)
    have g2 := hM2.get h2 (by simp <;> omega)
    have g3 : w2.heap[w.heap.size + 4]? = some o3 := by rw [← hW]; exact heapPe h3
    rw [← hO] at g3
    clear hO hW h0 h1 h2
    have hown2 := ownsRow_mod hown hM2 (by simp <;> omega)
    have hc := cellOf (o := 0) g0
    have hcs := cellOf (o := 0) gs
    have hz2 := hM2.size
    have hdl := KL_len v done
    have hdl2 : done.length ≤ 100 := by have := allL_len h8; rw [← hd] at this; simp at this; omega
    have hg2 := (hg.mod hM (by simp)).mod hM2 (by simp)
    have hMw := hM.trans hM2 (by simp <;> omega)
    simp (config := { maxSteps := 1000000 }) (disch := first | omega | (simp only [sizeAlloc, sizeDrew, sizeSet, sizePut] <;> omega) | fail) only [GS1, GS2, GS3, GS4, GS5, GS6, GS7, GS8, GS9, GS10, TT_eq, TTl, Nat.reduceAdd, Nat.reduceMul, Nat.reduceSub, Nat.reduceDiv, Nat.reduceMod, Nat.reducePow, Nat.reduceEqDiff, ↓reduceIte, reduceCtorEq, true_and, and_true, and_self, false_and, and_false, Int.reduceToNat, Int.reduceAdd, Int.reduceSub, Int.reduceMul, cond_true, cond_false, List.toList_toArray, Option.map_some, Option.map_none, Option.some.injEq, List.cons_append, List.nil_append, List.length_cons, List.length_nil, List.getD_cons_zero, List.getD_cons_succ, hc]
    refine ⟨fok27, kInS_cps v a hv _ _ (.inl ⟨_, rfl, hold_ops okT (rs := []) rfl ?_⟩)⟩
    by_cases ha : inS v a = true
    · have hkl : KL v done ++ [keyL 1 a b, keyL 2 a b] = KL v (done ++ [(a, b)]) := by
        unfold KL; rw [List.flatMap_append]; simp [kl, ha]
      rw [ha]
      simp (config := { maxSteps := 1000000 }) (disch := first | omega | (simp only [sizeAlloc, sizeDrew, sizeSet, sizePut] <;> omega) | fail) only [GS1, GS2, GS3, GS4, GS5, GS6, GS7, GS8, GS9, GS10, TT_eq, TTl, Nat.reduceAdd, Nat.reduceMul, Nat.reduceSub, Nat.reduceDiv, Nat.reduceMod, Nat.reducePow, Nat.reduceEqDiff, ↓reduceIte, reduceCtorEq, true_and, and_true, and_self, false_and, and_false, Int.reduceToNat, Int.reduceAdd, Int.reduceSub, Int.reduceMul, cond_true, cond_false, List.toList_toArray, Option.map_some, Option.map_none, Option.some.injEq, List.cons_append, List.nil_append, List.length_cons, List.length_nil, List.getD_cons_zero, List.getD_cons_succ, hcs]
      refine ⟨fok28, both_cps sv (w.heap.size + 5) (KL v done) a b ⟨⟨by omega, by omega⟩, by omega, by omega⟩ _ _ hg2 (by omega) (by omega) hown2 (by omega) fun w3 sv' hown3 hM3 => .inl ⟨_, rfl, hold_ops okT (rs := []) rfl ?_⟩⟩
      rw [hkl] at hown3
      have hb3 : ∀ k o, w2.heap[k]? = some o → k < w.heap.size + 5 → w3.heap[k]? = some o := fun k o h hk => hM3.get h (fun hx => by
        have := (hown2.lt k (by simpa using hx)).1; omega)
      have k0 := hb3 _ _ g0 (by omega); have ks := hb3 _ _ gs (by omega); have k1 := hb3 _ _ g1 (by omega); have k2 := hb3 _ _ g2 (by omega); have k3 := hb3 _ _ g3 (by omega)
      have hc3 := cellOf (o := 0) ks
      have hf3 := frozenOf (o := 0) ks
      have ho3 := ownsRow_one hown3
      simp (config := { maxSteps := 1000000 }) (disch := first | omega | (simp only [sizeAlloc, sizeDrew, sizeSet, sizePut] <;> omega) | fail) only [GS1, GS2, GS3, GS4, GS5, GS6, GS7, GS8, GS9, GS10, TT_eq, TTl, Nat.reduceAdd, Nat.reduceMul, Nat.reduceSub, Nat.reduceDiv, Nat.reduceMod, Nat.reducePow, Nat.reduceEqDiff, ↓reduceIte, reduceCtorEq, true_and, and_true, and_self, false_and, and_false, Int.reduceToNat, Int.reduceAdd, Int.reduceSub, Int.reduceMul, cond_true, cond_false, List.toList_toArray, Option.map_some, Option.map_none, Option.some.injEq, List.cons_append, List.nil_append, List.length_cons, List.length_nil, List.getD_cons_zero, List.getD_cons_succ, hc3, hf3, cellsL_one ho3, ho3]
      generalize hW4 : w3.setCell ⟨w.heap.size + 1, 0, none⟩ sv' = w4
      have js : w4.heap[w.heap.size + 1]? = some (.cells #[sv'] 22 (0, 0)) := by rw [← hW4]; exact heapSet ks
      have hM4 : Mod [w.heap.size + 1] w3 w4 := by rw [← hW4]; exact (Mod.refl _ _).set (.inl (by simp)) _
      have hown4 := ownsRow_mod hown3 hM4 (by simp <;> omega)
      refine ⟨_, hM4.get k3 (by simp <;> omega), rfl, ?_⟩
      generalize hW5 : w4.putObj _ _ = w5
      have hM5 : Mod [w.heap.size + 4] w4 w5 := by rw [← hW5]; exact (Mod.refl _ _).put (.inl (by simp)) _
      have hown5 := ownsRow_mod hown4 hM5 (by simp <;> omega)
      have hMf : Mod [] w w5 := ((hMw.trans hM3 (fun y hy => .inr (by have := (hown2.lt y (by simpa using hy)).1; omega))).trans hM4 (by simp <;> omega)).trans hM5 (by simp <;> omega)
      refine ⟨done ++ [(a, b)], sv', by simpa using hd, hM5.get (hM4.get k0 (by simp <;> omega)) (by simp <;> omega), hM5.get js (by simp <;> omega), hown5, hM5.get (hM4.get k1 (by simp <;> omega)) (by simp <;> omega), hM5.get (hM4.get k2 (by simp <;> omega)) (by simp <;> omega), ?_, hMf, ?_, ho3⟩
      · rw [← hW5]; exact heapPe (hM4.get k3 (by simp <;> omega))
      · have := hM5.size; have := hM4.size; have := hM3.size; omega
    · have ha : inS v a = false := by simpa using ha
      rw [ha]
      simp (config := { maxSteps := 1000000 }) (disch := first | omega | (simp only [sizeAlloc, sizeDrew, sizeSet, sizePut] <;> omega) | fail) only [GS1, GS2, GS3, GS4, GS5, GS6, GS7, GS8, GS9, GS10, TT_eq, TTl, Nat.reduceAdd, Nat.reduceMul, Nat.reduceSub, Nat.reduceDiv, Nat.reduceMod, Nat.reducePow, Nat.reduceEqDiff, ↓reduceIte, reduceCtorEq, true_and, and_true, and_self, false_and, and_false, Int.reduceToNat, Int.reduceAdd, Int.reduceSub, Int.reduceMul, cond_true, cond_false, List.toList_toArray, Option.map_some, Option.map_none, Option.some.injEq, List.cons_append, List.nil_append, List.length_cons, List.length_nil, List.getD_cons_zero, List.getD_cons_succ, hc]
      refine ⟨fok27, kInS_cps v b hv _ _ (.inl ⟨_, rfl, hold_ops okT (rs := []) rfl ?_⟩)⟩
      by_cases hb : inS v b = true
      · have hkl : KL v done ++ [keyL 1 a b, keyL 2 a b] = KL v (done ++ [(a, b)]) := by
          unfold KL; rw [List.flatMap_append]; simp [kl, ha, hb]
        rw [hb]
        simp (config := { maxSteps := 1000000 }) (disch := first | omega | (simp only [sizeAlloc, sizeDrew, sizeSet, sizePut] <;> omega) | fail) only [GS1, GS2, GS3, GS4, GS5, GS6, GS7, GS8, GS9, GS10, TT_eq, TTl, Nat.reduceAdd, Nat.reduceMul, Nat.reduceSub, Nat.reduceDiv, Nat.reduceMod, Nat.reducePow, Nat.reduceEqDiff, ↓reduceIte, reduceCtorEq, true_and, and_true, and_self, false_and, and_false, Int.reduceToNat, Int.reduceAdd, Int.reduceSub, Int.reduceMul, cond_true, cond_false, List.toList_toArray, Option.map_some, Option.map_none, Option.some.injEq, List.cons_append, List.nil_append, List.length_cons, List.length_nil, List.getD_cons_zero, List.getD_cons_succ, hcs]
        refine ⟨fok28, both_cps sv (w.heap.size + 5) (KL v done) a b ⟨⟨by omega, by omega⟩, by omega, by omega⟩ _ _ hg2 (by omega) (by omega) hown2 (by omega) fun w3 sv' hown3 hM3 => .inl ⟨_, rfl, hold_ops okT (rs := []) rfl ?_⟩⟩
        rw [hkl] at hown3
        have hb3 : ∀ k o, w2.heap[k]? = some o → k < w.heap.size + 5 → w3.heap[k]? = some o := fun k o h hk => hM3.get h (fun hx => by
          have := (hown2.lt k (by simpa using hx)).1; omega)
        have k0 := hb3 _ _ g0 (by omega); have ks := hb3 _ _ gs (by omega); have k1 := hb3 _ _ g1 (by omega); have k2 := hb3 _ _ g2 (by omega); have k3 := hb3 _ _ g3 (by omega)
        have hc3 := cellOf (o := 0) ks
        have hf3 := frozenOf (o := 0) ks
        have ho3 := ownsRow_one hown3
        simp (config := { maxSteps := 1000000 }) (disch := first | omega | (simp only [sizeAlloc, sizeDrew, sizeSet, sizePut] <;> omega) | fail) only [GS1, GS2, GS3, GS4, GS5, GS6, GS7, GS8, GS9, GS10, TT_eq, TTl, Nat.reduceAdd, Nat.reduceMul, Nat.reduceSub, Nat.reduceDiv, Nat.reduceMod, Nat.reducePow, Nat.reduceEqDiff, ↓reduceIte, reduceCtorEq, true_and, and_true, and_self, false_and, and_false, Int.reduceToNat, Int.reduceAdd, Int.reduceSub, Int.reduceMul, cond_true, cond_false, List.toList_toArray, Option.map_some, Option.map_none, Option.some.injEq, List.cons_append, List.nil_append, List.length_cons, List.length_nil, List.getD_cons_zero, List.getD_cons_succ, hc3, hf3, cellsL_one ho3, ho3]
        generalize hW4 : w3.setCell ⟨w.heap.size + 1, 0, none⟩ sv' = w4
        have js : w4.heap[w.heap.size + 1]? = some (.cells #[sv'] 22 (0, 0)) := by rw [← hW4]; exact heapSet ks
        have hM4 : Mod [w.heap.size + 1] w3 w4 := by rw [← hW4]; exact (Mod.refl _ _).set (.inl (by simp)) _
        have hown4 := ownsRow_mod hown3 hM4 (by simp <;> omega)
        refine ⟨_, hM4.get k3 (by simp <;> omega), rfl, ?_⟩
        generalize hW5 : w4.putObj _ _ = w5
        have hM5 : Mod [w.heap.size + 4] w4 w5 := by rw [← hW5]; exact (Mod.refl _ _).put (.inl (by simp)) _
        have hown5 := ownsRow_mod hown4 hM5 (by simp <;> omega)
        have hMf : Mod [] w w5 := ((hMw.trans hM3 (fun y hy => .inr (by have := (hown2.lt y (by simpa using hy)).1; omega))).trans hM4 (by simp <;> omega)).trans hM5 (by simp <;> omega)
        refine ⟨done ++ [(a, b)], sv', by simpa using hd, hM5.get (hM4.get k0 (by simp <;> omega)) (by simp <;> omega), hM5.get js (by simp <;> omega), hown5, hM5.get (hM4.get k1 (by simp <;> omega)) (by simp <;> omega), hM5.get (hM4.get k2 (by simp <;> omega)) (by simp <;> omega), ?_, hMf, ?_, ho3⟩
        · rw [← hW5]; exact heapPe (hM4.get k3 (by simp <;> omega))
        · have := hM5.size; have := hM4.size; have := hM3.size; omega
      · have hb : inS v b = false := by simpa using hb
        have hkl : KL v done = KL v (done ++ [(a, b)]) := by
          unfold KL; rw [List.flatMap_append]; simp [kl, ha, hb]
        rw [hb]
        simp (config := { maxSteps := 1000000 }) (disch := first | omega | (simp only [sizeAlloc, sizeDrew, sizeSet, sizePut] <;> omega) | fail) only [GS1, GS2, GS3, GS4, GS5, GS6, GS7, GS8, GS9, GS10, TT_eq, TTl, Nat.reduceAdd, Nat.reduceMul, Nat.reduceSub, Nat.reduceDiv, Nat.reduceMod, Nat.reducePow, Nat.reduceEqDiff, ↓reduceIte, reduceCtorEq, true_and, and_true, and_self, false_and, and_false, Int.reduceToNat, Int.reduceAdd, Int.reduceSub, Int.reduceMul, cond_true, cond_false, List.toList_toArray, Option.map_some, Option.map_none, Option.some.injEq, List.cons_append, List.nil_append, List.length_cons, List.length_nil, List.getD_cons_zero, List.getD_cons_succ]
        refine ⟨_, g3, rfl, ?_⟩
        generalize hW5 : w2.putObj _ _ = w5
        have hM5 : Mod [w.heap.size + 4] w2 w5 := by rw [← hW5]; exact (Mod.refl _ _).put (.inl (by simp)) _
        have hown5 := ownsRow_mod hown2 hM5 (by simp <;> omega)
        refine ⟨done ++ [(a, b)], sv, by simpa using hd, hM5.get g0 (by simp <;> omega), hM5.get gs (by simp <;> omega), by rw [← hkl]; exact hown5, hM5.get g1 (by simp <;> omega), hM5.get g2 (by simp <;> omega), ?_, hMw.trans hM5 (by simp <;> omega), ?_, ho⟩
        · rw [← hW5]; exact heapPe g3
        · have := hM5.size; omega
set_option maxHeartbeats 1000000 in
theorem Known_no (v n : Int) (h1 : ¬ mayN n) (w : World) (R : Ending → World → Prop) (hR : ∀ w', Mod [] w w' → R (.returned (.slice none 0 0)) w') : Calls Tryd.prog 17 #[.int .u8 v, .int .i64 n] w R := by
  refine calls_go 4000 okT Tryd.func17 rfl (rs := [.cell 4 22]) rfl Tryd.ntmps17 (args := [.int .u8 v, .int .i64 n]) ?_
  simp (config := { maxSteps := 1000000 }) (disch := first | omega | (simp only [sizeAlloc, sizeDrew, sizeSet, sizePut] <;> omega) | fail) only [GS1, GS2, GS3, GS4, GS5, GS6, GS7, GS8, GS9, GS10, TT_eq, TTl, Nat.reduceAdd, Nat.reduceMul, Nat.reduceSub, Nat.reduceDiv, Nat.reduceMod, Nat.reducePow, Nat.reduceEqDiff, ↓reduceIte, reduceCtorEq, true_and, and_true, and_self, false_and, and_false, Int.reduceToNat, Int.reduceAdd, Int.reduceSub, Int.reduceMul, cond_true, cond_false, List.toList_toArray, Option.map_some, Option.map_none, Option.some.injEq, List.cons_append, List.nil_append, List.length_cons, List.length_nil, List.getD_cons_zero, List.getD_cons_succ]
  refine ⟨fok25, may_cps n _ _ (.inl ⟨_, rfl, hold_ops okT (rs := [.cell 4 22]) rfl ?_⟩)⟩
  rw [decide_eq_false h1]
  simp (config := { maxSteps := 1000000 }) (disch := first | omega | (simp only [sizeAlloc, sizeDrew, sizeSet, sizePut] <;> omega) | fail) only [GS1, GS2, GS3, GS4, GS5, GS6, GS7, GS8, GS9, GS10, TT_eq, TTl, Nat.reduceAdd, Nat.reduceMul, Nat.reduceSub, Nat.reduceDiv, Nat.reduceMod, Nat.reducePow, Nat.reduceEqDiff, ↓reduceIte, reduceCtorEq, true_and, and_true, and_self, false_and, and_false, Int.reduceToNat, Int.reduceAdd, Int.reduceSub, Int.reduceMul, cond_true, cond_false, List.toList_toArray, Option.map_some, Option.map_none, Option.some.injEq, List.cons_append, List.nil_append, List.length_cons, List.length_nil, List.getD_cons_zero, List.getD_cons_succ, leaveW, loadW]
  exact ⟨_, rfl, hR _ ((((Mod.refl _ _).alloc _).alloc _).set (.inr (by simp)) _)⟩
/-- The keys of one, with those below n. -/
def OL (a : Int) (n : Nat) : List (List UInt8) := (List.range n).flatMap fun k : Nat => [keyL 1 a (k : Int), keyL 2 a (k : Int)]
theorem OL_len (a : Int) : ∀ n, (OL a n).length = 2 * n
  | 0 => rfl
  | n + 1 => by
    unfold OL
    rw [List.range_succ, List.flatMap_append, List.length_append]
    have := OL_len a n
    unfold OL at this
    rw [this]; simp; omega
set_option maxRecDepth 20000 in
set_option maxHeartbeats 2000000 in
theorem Of_cps (a n : Int) (w : World) (R : Ending → World → Prop) (hg : KG w)
    (hR : ∀ sv w', w'.ownsRow w.heap.size 9 1 sv (if mayN n ∧ 0 ≤ a ∧ a < n then OL a n.toNat else []).length ((if mayN n ∧ 0 ≤ a ∧ a < n then OL a n.toNat else []).map strV) → Mod [] w w' → R (.returned sv) w') :
    Calls Tryd.prog 20 #[.int .i64 a, .int .i64 n] w R := by
  by_cases hm : mayN n
  · by_cases h0 : 0 ≤ a
    · by_cases hn : a < n
      · rw [if_pos ⟨hm, h0, hn⟩] at hR
        obtain ⟨hm1, hm8⟩ := hm
        obtain ⟨N, rfl⟩ := Int.eq_ofNat_of_zero_le (show 0 ≤ n by omega)
        rw [Int.toNat_natCast] at hR
        refine calls_go 4000 okT Tryd.func20 rfl (rs := [.tmp 4]) rfl Tryd.ntmps20 (args := [.int .i64 a, .int .i64 N]) ?_
        simp (config := { maxSteps := 1000000 }) (disch := first | omega | (simp only [sizeAlloc, sizeDrew, sizeSet, sizePut] <;> omega) | fail) only [GS1, GS2, GS3, GS4, GS5, GS6, GS7, GS8, GS9, GS10, TT_eq, TTl, Nat.reduceAdd, Nat.reduceMul, Nat.reduceSub, Nat.reduceDiv, Nat.reduceMod, Nat.reducePow, Nat.reduceEqDiff, ↓reduceIte, reduceCtorEq, true_and, and_true, and_self, false_and, and_false, Int.reduceToNat, Int.reduceAdd, Int.reduceSub, Int.reduceMul, cond_true, cond_false, List.toList_toArray, Option.map_some, Option.map_none, Option.some.injEq, List.cons_append, List.nil_append, List.length_cons, List.length_nil, List.getD_cons_zero, List.getD_cons_succ]
        refine ⟨fok25, may_cps N _ _ (.inl ⟨_, rfl, hold_ops okT (rs := [.tmp 4]) rfl ?_⟩)⟩
        rw [decide_eq_true ⟨hm1, hm8⟩]
        simp (config := { maxSteps := 1000000 }) (disch := first | omega | (simp only [sizeAlloc, sizeDrew, sizeSet, sizePut] <;> omega) | fail) only [GS1, GS2, GS3, GS4, GS5, GS6, GS7, GS8, GS9, GS10, TT_eq, TTl, Nat.reduceAdd, Nat.reduceMul, Nat.reduceSub, Nat.reduceDiv, Nat.reduceMod, Nat.reducePow, Nat.reduceEqDiff, ↓reduceIte, reduceCtorEq, true_and, and_true, and_self, false_and, and_false, Int.reduceToNat, Int.reduceAdd, Int.reduceSub, Int.reduceMul, cond_true, cond_false, List.toList_toArray, Option.map_some, Option.map_none, Option.some.injEq, List.cons_append, List.nil_append, List.length_cons, List.length_nil, List.getD_cons_zero, List.getD_cons_succ]
        refine hold_loop okT (rs := [.tmp 4]) rfl [4, 19] [5, 20, 21, 22, 23, 24, 25, 26] (fun vs w' => ∃ (k : Nat) (sv : Value), k ≤ N ∧ vs = [sv, .int .i64 k] ∧ w'.ownsRow w.heap.size 9 1 sv (OL a k).length ((OL a k).map strV) ∧ Mod [] w w') (fun vs _ => match vs with | [_, .int _ i] => N - i.toNat | _ => 0) (by kernel_rfl) ⟨0, _, by omega, rfl, World.ownsRow_nil _ _ _ _, Mod.refl _ _⟩ ?_
        rintro vs w1 J ⟨k, sv, hk, rfl, hr, hM⟩
        have hl := OL_len a k
        by_cases hlt : k < N
        · simp (config := { maxSteps := 1000000 }) (disch := first | omega | (simp only [sizeAlloc, sizeDrew, sizeSet, sizePut] <;> omega) | fail) only [GS1, GS2, GS3, GS4, GS5, GS6, GS7, GS8, GS9, GS10, TT_eq, TTl, Nat.reduceAdd, Nat.reduceMul, Nat.reduceSub, Nat.reduceDiv, Nat.reduceMod, Nat.reducePow, Nat.reduceEqDiff, ↓reduceIte, reduceCtorEq, true_and, and_true, and_self, false_and, and_false, Int.reduceToNat, Int.reduceAdd, Int.reduceSub, Int.reduceMul, cond_true, cond_false, List.toList_toArray, Option.map_some, Option.map_none, Option.some.injEq, List.cons_append, List.nil_append, List.length_cons, List.length_nil, List.getD_cons_zero, List.getD_cons_succ]
          refine ⟨fok28, both_cps sv w.heap.size (OL a k) a k ⟨⟨by omega, by omega⟩, by omega, by omega⟩ _ _ (hg.mod hM (by simp)) hg.lt hM.size hr (by omega) fun w3 sv' hown3 hM3 => .inl ⟨_, rfl, hold_ops okT (rs := [.tmp 4]) rfl ?_⟩⟩
          simp (config := { maxSteps := 1000000 }) (disch := first | omega | (simp only [sizeAlloc, sizeDrew, sizeSet, sizePut] <;> omega) | fail) only [GS1, GS2, GS3, GS4, GS5, GS6, GS7, GS8, GS9, GS10, TT_eq, TTl, Nat.reduceAdd, Nat.reduceMul, Nat.reduceSub, Nat.reduceDiv, Nat.reduceMod, Nat.reducePow, Nat.reduceEqDiff, ↓reduceIte, reduceCtorEq, true_and, and_true, and_self, false_and, and_false, Int.reduceToNat, Int.reduceAdd, Int.reduceSub, Int.reduceMul, cond_true, cond_false, List.toList_toArray, Option.map_some, Option.map_none, Option.some.injEq, List.cons_append, List.nil_append, List.length_cons, List.length_nil, List.getD_cons_zero, List.getD_cons_succ]
          refine ⟨⟨k + 1, sv', by omega, rfl, ?_, hM.trans hM3 fun y hy => .inr (hr.lt y (by simpa using hy)).1⟩, by omega⟩
          have e : OL a (k + 1) = OL a k ++ [keyL 1 a k, keyL 2 a k] := by unfold OL; rw [List.range_succ, List.flatMap_append]; simp
          rw [e]; exact hown3
        · have e : k = N := by omega
          subst e
          simp (config := { maxSteps := 1000000 }) (disch := first | omega | (simp only [sizeAlloc, sizeDrew, sizeSet, sizePut] <;> omega) | fail) only [GS1, GS2, GS3, GS4, GS5, GS6, GS7, GS8, GS9, GS10, TT_eq, TTl, Nat.reduceAdd, Nat.reduceMul, Nat.reduceSub, Nat.reduceDiv, Nat.reduceMod, Nat.reducePow, Nat.reduceEqDiff, ↓reduceIte, reduceCtorEq, true_and, and_true, and_self, false_and, and_false, Int.reduceToNat, Int.reduceAdd, Int.reduceSub, Int.reduceMul, cond_true, cond_false, List.toList_toArray, Option.map_some, Option.map_none, Option.some.injEq, List.cons_append, List.nil_append, List.length_cons, List.length_nil, List.getD_cons_zero, List.getD_cons_succ]
          exact hR _ _ hr hM
      · rw [if_neg (fun h => hn h.2.2)] at hR
        refine calls_go 4000 okT Tryd.func20 rfl (rs := [.tmp 4]) rfl Tryd.ntmps20 (args := [.int .i64 a, .int .i64 n]) ?_
        simp (config := { maxSteps := 1000000 }) (disch := first | omega | (simp only [sizeAlloc, sizeDrew, sizeSet, sizePut] <;> omega) | fail) only [GS1, GS2, GS3, GS4, GS5, GS6, GS7, GS8, GS9, GS10, TT_eq, TTl, Nat.reduceAdd, Nat.reduceMul, Nat.reduceSub, Nat.reduceDiv, Nat.reduceMod, Nat.reducePow, Nat.reduceEqDiff, ↓reduceIte, reduceCtorEq, true_and, and_true, and_self, false_and, and_false, Int.reduceToNat, Int.reduceAdd, Int.reduceSub, Int.reduceMul, cond_true, cond_false, List.toList_toArray, Option.map_some, Option.map_none, Option.some.injEq, List.cons_append, List.nil_append, List.length_cons, List.length_nil, List.getD_cons_zero, List.getD_cons_succ]
        refine ⟨fok25, may_cps n _ _ (.inl ⟨_, rfl, hold_ops okT (rs := [.tmp 4]) rfl ?_⟩)⟩
        rw [decide_eq_true hm]
        simp (config := { maxSteps := 1000000 }) (disch := first | omega | (simp only [sizeAlloc, sizeDrew, sizeSet, sizePut] <;> omega) | fail) only [GS1, GS2, GS3, GS4, GS5, GS6, GS7, GS8, GS9, GS10, TT_eq, TTl, Nat.reduceAdd, Nat.reduceMul, Nat.reduceSub, Nat.reduceDiv, Nat.reduceMod, Nat.reducePow, Nat.reduceEqDiff, ↓reduceIte, reduceCtorEq, true_and, and_true, and_self, false_and, and_false, Int.reduceToNat, Int.reduceAdd, Int.reduceSub, Int.reduceMul, cond_true, cond_false, List.toList_toArray, Option.map_some, Option.map_none, Option.some.injEq, List.cons_append, List.nil_append, List.length_cons, List.length_nil, List.getD_cons_zero, List.getD_cons_succ]
        exact hR _ _ (World.ownsRow_nil _ _ _ _) (Mod.refl _ _)
    · rw [if_neg (fun h => h0 h.2.1)] at hR
      refine calls_go 4000 okT Tryd.func20 rfl (rs := [.tmp 4]) rfl Tryd.ntmps20 (args := [.int .i64 a, .int .i64 n]) ?_
      simp (config := { maxSteps := 1000000 }) (disch := first | omega | (simp only [sizeAlloc, sizeDrew, sizeSet, sizePut] <;> omega) | fail) only [GS1, GS2, GS3, GS4, GS5, GS6, GS7, GS8, GS9, GS10, TT_eq, TTl, Nat.reduceAdd, Nat.reduceMul, Nat.reduceSub, Nat.reduceDiv, Nat.reduceMod, Nat.reducePow, Nat.reduceEqDiff, ↓reduceIte, reduceCtorEq, true_and, and_true, and_self, false_and, and_false, Int.reduceToNat, Int.reduceAdd, Int.reduceSub, Int.reduceMul, cond_true, cond_false, List.toList_toArray, Option.map_some, Option.map_none, Option.some.injEq, List.cons_append, List.nil_append, List.length_cons, List.length_nil, List.getD_cons_zero, List.getD_cons_succ]
      refine ⟨fok25, may_cps n _ _ (.inl ⟨_, rfl, hold_ops okT (rs := [.tmp 4]) rfl ?_⟩)⟩
      rw [decide_eq_true hm]
      simp (config := { maxSteps := 1000000 }) (disch := first | omega | (simp only [sizeAlloc, sizeDrew, sizeSet, sizePut] <;> omega) | fail) only [GS1, GS2, GS3, GS4, GS5, GS6, GS7, GS8, GS9, GS10, TT_eq, TTl, Nat.reduceAdd, Nat.reduceMul, Nat.reduceSub, Nat.reduceDiv, Nat.reduceMod, Nat.reducePow, Nat.reduceEqDiff, ↓reduceIte, reduceCtorEq, true_and, and_true, and_self, false_and, and_false, Int.reduceToNat, Int.reduceAdd, Int.reduceSub, Int.reduceMul, cond_true, cond_false, List.toList_toArray, Option.map_some, Option.map_none, Option.some.injEq, List.cons_append, List.nil_append, List.length_cons, List.length_nil, List.getD_cons_zero, List.getD_cons_succ]
      exact hR _ _ (World.ownsRow_nil _ _ _ _) (Mod.refl _ _)
  · rw [if_neg (fun h => hm h.1)] at hR
    refine calls_go 4000 okT Tryd.func20 rfl (rs := [.tmp 4]) rfl Tryd.ntmps20 (args := [.int .i64 a, .int .i64 n]) ?_
    simp (config := { maxSteps := 1000000 }) (disch := first | omega | (simp only [sizeAlloc, sizeDrew, sizeSet, sizePut] <;> omega) | fail) only [GS1, GS2, GS3, GS4, GS5, GS6, GS7, GS8, GS9, GS10, TT_eq, TTl, Nat.reduceAdd, Nat.reduceMul, Nat.reduceSub, Nat.reduceDiv, Nat.reduceMod, Nat.reducePow, Nat.reduceEqDiff, ↓reduceIte, reduceCtorEq, true_and, and_true, and_self, false_and, and_false, Int.reduceToNat, Int.reduceAdd, Int.reduceSub, Int.reduceMul, cond_true, cond_false, List.toList_toArray, Option.map_some, Option.map_none, Option.some.injEq, List.cons_append, List.nil_append, List.length_cons, List.length_nil, List.getD_cons_zero, List.getD_cons_succ]
    refine ⟨fok25, may_cps n _ _ (.inl ⟨_, rfl, hold_ops okT (rs := [.tmp 4]) rfl ?_⟩)⟩
    rw [decide_eq_false hm]
    simp (config := { maxSteps := 1000000 }) (disch := first | omega | (simp only [sizeAlloc, sizeDrew, sizeSet, sizePut] <;> omega) | fail) only [GS1, GS2, GS3, GS4, GS5, GS6, GS7, GS8, GS9, GS10, TT_eq, TTl, Nat.reduceAdd, Nat.reduceMul, Nat.reduceSub, Nat.reduceDiv, Nat.reduceMod, Nat.reducePow, Nat.reduceEqDiff, ↓reduceIte, reduceCtorEq, true_and, and_true, and_self, false_and, and_false, Int.reduceToNat, Int.reduceAdd, Int.reduceSub, Int.reduceMul, cond_true, cond_false, List.toList_toArray, Option.map_some, Option.map_none, Option.some.injEq, List.cons_append, List.nil_append, List.length_cons, List.length_nil, List.getD_cons_zero, List.getD_cons_succ]
    exact hR _ _ (World.ownsRow_nil _ _ _ _) (Mod.refl _ _)
theorem TermsNil_cps (w : World) (R : Ending → World → Prop) (hR : R (.returned (.tuple #[.slice none 0 0, .int .i64 1])) w) : Calls Tryd.prog 8 #[.pointer none, .slice none 0 0] w R := by
  refine calls_go 4000 okT Tryd.func8 rfl (rs := [.tmp 4, .tmp 5]) rfl Tryd.ntmps8 (args := [.pointer none, .slice none 0 0]) ?_
  simp (config := { maxSteps := 1000000 }) (disch := first | omega | (simp only [sizeAlloc, sizeDrew, sizeSet, sizePut] <;> omega) | fail) only [GS1, GS2, GS3, GS4, GS5, GS6, GS7, GS8, GS9, GS10, TT_eq, TTl, Nat.reduceAdd, Nat.reduceMul, Nat.reduceSub, Nat.reduceDiv, Nat.reduceMod, Nat.reducePow, Nat.reduceEqDiff, ↓reduceIte, reduceCtorEq, true_and, and_true, and_self, false_and, and_false, Int.reduceToNat, Int.reduceAdd, Int.reduceSub, Int.reduceMul, cond_true, cond_false, List.toList_toArray, Option.map_some, Option.map_none, Option.some.injEq, List.cons_append, List.nil_append, List.length_cons, List.length_nil, List.getD_cons_zero, List.getD_cons_succ]
  exact hR
set_option maxRecDepth 20000 in
set_option maxHeartbeats 2000000 in
theorem kalive_cps (w : World) (R : Ending → World → Prop) (hg : KG w) (hR : ∀ w', Mod [] w w' → R (.returned (.bool true)) w') : Calls Tryd.prog 6 #[] w R := by
  refine calls_go 4000 okT Tryd.func6 rfl (rs := [.tmp 0]) rfl Tryd.ntmps6 (args := []) ?_
  simp (config := { maxSteps := 1000000 }) (disch := first | omega | (simp only [sizeAlloc, sizeDrew, sizeSet, sizePut] <;> omega) | fail) only [GS1, GS2, GS3, GS4, GS5, GS6, GS7, GS8, GS9, GS10, TT_eq, TTl, Nat.reduceAdd, Nat.reduceMul, Nat.reduceSub, Nat.reduceDiv, Nat.reduceMod, Nat.reducePow, Nat.reduceEqDiff, ↓reduceIte, reduceCtorEq, true_and, and_true, and_self, false_and, and_false, Int.reduceToNat, Int.reduceAdd, Int.reduceSub, Int.reduceMul, cond_true, cond_false, List.toList_toArray, Option.map_some, Option.map_none, Option.some.injEq, List.cons_append, List.nil_append, List.length_cons, List.length_nil, List.getD_cons_zero, List.getD_cons_succ]
  refine ⟨fok11, kTag_cps 2 0 _ _ hg fun w1 hM1 => .inl ⟨_, rfl, hold_ops okT (rs := [.tmp 0]) rfl ?_⟩⟩
  rw [show keyA 1 2 0 = .tuple #[.string ⟨#[107, 47, 48, 47, 50]⟩, .int .i64 0] from rfl]
  have hg1 := hg.mod hM1 (by simp)
  simp (config := { maxSteps := 1000000 }) (disch := first | omega | (simp only [sizeAlloc, sizeDrew, sizeSet, sizePut] <;> omega) | fail) only [GS1, GS2, GS3, GS4, GS5, GS6, GS7, GS8, GS9, GS10, TT_eq, TTl, Nat.reduceAdd, Nat.reduceMul, Nat.reduceSub, Nat.reduceDiv, Nat.reduceMod, Nat.reducePow, Nat.reduceEqDiff, ↓reduceIte, reduceCtorEq, true_and, and_true, and_self, false_and, and_false, Int.reduceToNat, Int.reduceAdd, Int.reduceSub, Int.reduceMul, cond_true, cond_false, List.toList_toArray, Option.map_some, Option.map_none, Option.some.injEq, List.cons_append, List.nil_append, List.length_cons, List.length_nil, List.getD_cons_zero, List.getD_cons_succ]
  refine ⟨fok13, kSeal_cps 1 1 _ _ hg1 fun w2 hM2 => .inl ⟨_, rfl, hold_ops okT (rs := [.tmp 0]) rfl ?_⟩⟩
  rw [show keyA 2 1 1 = .tuple #[.string ⟨#[115, 47, 49, 47, 49]⟩, .int .i64 0] from rfl]
  have hg2 := hg1.mod hM2 (by simp)
  simp (config := { maxSteps := 1000000 }) (disch := first | omega | (simp only [sizeAlloc, sizeDrew, sizeSet, sizePut] <;> omega) | fail) only [GS1, GS2, GS3, GS4, GS5, GS6, GS7, GS8, GS9, GS10, TT_eq, TTl, Nat.reduceAdd, Nat.reduceMul, Nat.reduceSub, Nat.reduceDiv, Nat.reduceMod, Nat.reducePow, Nat.reduceEqDiff, ↓reduceIte, reduceCtorEq, true_and, and_true, and_self, false_and, and_false, Int.reduceToNat, Int.reduceAdd, Int.reduceSub, Int.reduceMul, cond_true, cond_false, List.toList_toArray, Option.map_some, Option.map_none, Option.some.injEq, List.cons_append, List.nil_append, List.length_cons, List.length_nil, List.getD_cons_zero, List.getD_cons_succ]
  refine ⟨fok11, kTag_cps 0 8 _ _ hg2 fun w3 hM3 => .inl ⟨_, rfl, hold_ops okT (rs := [.tmp 0]) rfl ?_⟩⟩
  rw [show keyA 1 0 8 = .tuple #[.string ⟨#[]⟩, .int .i64 2] from rfl]
  have hg3 := hg2.mod hM3 (by simp)
  simp (config := { maxSteps := 1000000 }) (disch := first | omega | (simp only [sizeAlloc, sizeDrew, sizeSet, sizePut] <;> omega) | fail) only [GS1, GS2, GS3, GS4, GS5, GS6, GS7, GS8, GS9, GS10, TT_eq, TTl, Nat.reduceAdd, Nat.reduceMul, Nat.reduceSub, Nat.reduceDiv, Nat.reduceMod, Nat.reducePow, Nat.reduceEqDiff, ↓reduceIte, reduceCtorEq, true_and, and_true, and_self, false_and, and_false, Int.reduceToNat, Int.reduceAdd, Int.reduceSub, Int.reduceMul, cond_true, cond_false, List.toList_toArray, Option.map_some, Option.map_none, Option.some.injEq, List.cons_append, List.nil_append, List.length_cons, List.length_nil, List.getD_cons_zero, List.getD_cons_succ]
  refine ⟨fok8, TermsNil_cps _ _ (.inl ⟨_, rfl, hold_ops okT (rs := [.tmp 0]) rfl ?_⟩)⟩
  simp (config := { maxSteps := 1000000 }) (disch := first | omega | (simp only [sizeAlloc, sizeDrew, sizeSet, sizePut] <;> omega) | fail) only [GS1, GS2, GS3, GS4, GS5, GS6, GS7, GS8, GS9, GS10, TT_eq, TTl, Nat.reduceAdd, Nat.reduceMul, Nat.reduceSub, Nat.reduceDiv, Nat.reduceMod, Nat.reducePow, Nat.reduceEqDiff, ↓reduceIte, reduceCtorEq, true_and, and_true, and_self, false_and, and_false, Int.reduceToNat, Int.reduceAdd, Int.reduceSub, Int.reduceMul, cond_true, cond_false, List.toList_toArray, Option.map_some, Option.map_none, Option.some.injEq, List.cons_append, List.nil_append, List.length_cons, List.length_nil, List.getD_cons_zero, List.getD_cons_succ]
  refine ⟨fok17, Known_ok 1 2 (by decide) (by decide) (by decide) _ _ hg3 fun sv w4 hown hM4 => .inl ⟨_, rfl, hold_ops okT (rs := [.tmp 0]) rfl ?_⟩⟩
  rw [show KL 1 (allL 2 0) = [[107, 47, 48, 47, 48], [115, 47, 48, 47, 48], [107, 47, 48, 47, 49], [115, 47, 48, 47, 49]] from by decide] at hown
  simp (config := { maxSteps := 1000000 }) (disch := first | omega | (simp only [sizeAlloc, sizeDrew, sizeSet, sizePut] <;> omega) | fail) only [GS1, GS2, GS3, GS4, GS5, GS6, GS7, GS8, GS9, GS10, TT_eq, TTl, Nat.reduceAdd, Nat.reduceMul, Nat.reduceSub, Nat.reduceDiv, Nat.reduceMod, Nat.reducePow, Nat.reduceEqDiff, ↓reduceIte, reduceCtorEq, true_and, and_true, and_self, false_and, and_false, Int.reduceToNat, Int.reduceAdd, Int.reduceSub, Int.reduceMul, cond_true, cond_false, List.toList_toArray, Option.map_some, Option.map_none, Option.some.injEq, List.cons_append, List.nil_append, List.length_cons, List.length_nil, List.getD_cons_zero, List.getD_cons_succ]
  refine ⟨fok10, Same_cps _ _ [[107, 47, 48, 47, 48], [115, 47, 48, 47, 48], [107, 47, 48, 47, 49], [115, 47, 48, 47, 49]] [[107, 47, 48, 47, 48], [115, 47, 48, 47, 48], [107, 47, 48, 47, 49], [115, 47, 48, 47, 49]] _ _ (by decide) ((Rd.own hown).mod ((Mod.refl [] _).alloc _) (by simp)) ?_ fun n => .inl ⟨_, rfl, hold_ops okT (rs := [.tmp 0]) rfl ?_⟩⟩
  · exact Rd.lit rfl
  · rw [decide_eq_true rfl]
    simp (config := { maxSteps := 1000000 }) (disch := first | omega | (simp only [sizeAlloc, sizeDrew, sizeSet, sizePut] <;> omega) | fail) only [GS1, GS2, GS3, GS4, GS5, GS6, GS7, GS8, GS9, GS10, TT_eq, TTl, Nat.reduceAdd, Nat.reduceMul, Nat.reduceSub, Nat.reduceDiv, Nat.reduceMod, Nat.reducePow, Nat.reduceEqDiff, ↓reduceIte, reduceCtorEq, true_and, and_true, and_self, false_and, and_false, Int.reduceToNat, Int.reduceAdd, Int.reduceSub, Int.reduceMul, cond_true, cond_false, List.toList_toArray, Option.map_some, Option.map_none, Option.some.injEq, List.cons_append, List.nil_append, List.length_cons, List.length_nil, List.getD_cons_zero, List.getD_cons_succ]
    exact hR _ (((((hM1.trans hM2 (by simp)).trans hM3 (by simp)).trans hM4 (by simp)).alloc _).drewN n)
end Go.Proofs.YtbdiihilbcinpaaDoor
