/-
  term.Parts (walk).
-/
import Derived.Test.YticoollhaachfaaPrt1
set_option linter.unusedSimpArgs false
set_option linter.unusedVariables false
namespace Go.Proofs.Yticoollhaachfaa
open Go Go.Wk Go.RowKit
attribute [local irreducible] go Hold
open Go.Lib
set_option maxRecDepth 20000 in
set_option maxHeartbeats 4000000 in
theorem parts1_cps (S : List UInt8) (hS : S.length ≤ maxLen) (a b d : Nat) (hab : a ≤ b) (hb : b ≤ S.length) (B1 B2 base : Nat) (hB1 : B1 < base) (hB2 : B2 < base) (hne : B1 ≠ B2) (sv : Value) (xs : List (List UInt8)) (hn : xs.length ≤ 1000000) (w : World) (R : Ending → World → Prop)
    (h1 : w.heap[B1]? = some (.cells #[.string ⟨S.toArray⟩] 9 (0, 0))) (h2 : w.heap[B2]? = some (.cells #[sv] 22 (0, 0))) (hown : w.ownsRow base 9 1 sv xs.length (xs.map strV)) (hbase : base ≤ w.heap.size)
    (hR0 : d ≠ 2 → R (.returned (.tuple #[])) w)
    (hR2 : d = 2 → ∀ sv' w', w'.heap[B2]? = some (.cells #[sv'] 22 (0, 0)) → w'.ownsRow base 9 1 sv' (xs.length + 1) ((xs ++ [cutS S (a, b, d)]).map strV) → Mod (B2 :: sv.ownBlock.toList) w w' → R (.returned (.tuple #[])) w') :
    Calls Try.prog 75 #[.int .i64 a, .int .i64 b, .int .i64 d, .pointer (some ⟨B2, 0, none⟩), .pointer (some ⟨B1, 0, none⟩)] w R := by
  unfold maxLen at hS
  refine calls_go 4000 okT Try.func75 rfl (rs := []) rfl Try.ntmps75 (args := [.int .i64 a, .int .i64 b, .int .i64 d, .pointer (some ⟨B2, 0, none⟩), .pointer (some ⟨B1, 0, none⟩)]) ?_
  by_cases hd : d = 2
  · have hR := hR2 hd
    simp (config := { maxSteps := 1000000 }) (disch := first | omega | (simp only [sizeAlloc, sizeDrew, sizeSet, sizePut] <;> omega) | fail) only [GS1, GS2, GS3, GS4, GS5, GS6, GS7, GS8, GS9, GS10, GS11, TT_eq, TTl, Nat.reduceAdd, Nat.reduceMul, Nat.reduceSub, Nat.reduceDiv, Nat.reduceMod, Nat.reducePow, Nat.reduceEqDiff, ↓reduceIte, reduceCtorEq, true_and, and_true, and_self, false_and, and_false, Int.reduceToNat, Int.reduceAdd, Int.reduceSub, Int.reduceMul, cond_true, cond_false, List.toList_toArray, Option.map_some, Option.map_none, Option.some.injEq, List.cons_append, List.nil_append, List.length_cons, List.length_nil, List.getD_cons_zero, List.getD_cons_succ]
    refine hold_draw okT (rs := []) rfl [0, 0, 0, 0, 14, 30, 63, 127] [0, 1, 2, 3, 4, 5, 6, 7] (by kernel_rfl) (by kernel_rfl) ?_
    have hM0 := Mod.drewN 1 (Mod.refl [] w)
    have h1' : (w.drewN 1).heap[B1]? = some (.cells #[.string ⟨S.toArray⟩] 9 (0, 0)) := h1
    have h2' : (w.drewN 1).heap[B2]? = some (.cells #[sv] 22 (0, 0)) := h2
    have hown' := ownsRow_mod hown hM0 (by simp)
    have hbase' : base ≤ (w.drewN 1).heap.size := hbase
    generalize w.drewN 1 = w0 at hM0 h1' h2' hown' hbase' ⊢
    have c1 := cellOf (o := 0) h1'
    have c2 := cellOf (o := 0) h2'
    have hc : cutS S (a, b, d) = List.drop a (List.take b S) := by unfold cutS; rw [List.drop_take]
    have hcl := ownsRow_one hown'
    simp (config := { maxSteps := 1000000 }) (disch := first | omega | (simp only [sizeAlloc, sizeDrew, sizeSet, sizePut] <;> omega) | fail) only [GS1, GS2, GS3, GS4, GS5, GS6, GS7, GS8, GS9, GS10, GS11, TT_eq, TTl, Nat.reduceAdd, Nat.reduceMul, Nat.reduceSub, Nat.reduceDiv, Nat.reduceMod, Nat.reducePow, Nat.reduceEqDiff, ↓reduceIte, reduceCtorEq, true_and, and_true, and_self, false_and, and_false, Int.reduceToNat, Int.reduceAdd, Int.reduceSub, Int.reduceMul, cond_true, cond_false, List.toList_toArray, Option.map_some, Option.map_none, Option.some.injEq, List.cons_append, List.nil_append, List.length_cons, List.length_nil, List.getD_cons_zero, List.getD_cons_succ, c1, c2]
    refine hold_dappendN okT rfl rfl rfl rfl (by decide) base hown' rfl rfl (news := [.string ⟨(List.drop a (List.take b S)).toArray⟩]) rfl (by decide) (by simp [Value.oneCell']) (by simp only; omega) (by unfold maxLen; omega) hbase' fun v' w' hown2 hM2 _ => ⟨?_, hold_dops okT (rs := []) rfl ?_⟩
    · simp (config := { maxSteps := 1000000 }) only [GS1, GS2, GS3, GS4, GS5, GS6, GS7, GS8, GS9, GS10, GS11, TT_eq, TTl, Nat.reduceAdd, Nat.reduceMul, Nat.reduceSub, Nat.reduceDiv, Nat.reduceMod, Nat.reducePow, Nat.reduceEqDiff, ↓reduceIte, reduceCtorEq, true_and, and_true, and_self, false_and, and_false, Int.reduceToNat, Int.reduceAdd, Int.reduceSub, Int.reduceMul, cond_true, cond_false, List.toList_toArray, Option.map_some, Option.map_none, Option.some.injEq, List.cons_append, List.nil_append, List.length_cons, List.length_nil, List.getD_cons_zero, List.getD_cons_succ]
    have hb2 : ∀ x ∈ sv.ownBlock.toList, base ≤ x := fun x hx => (hown'.lt x (by simpa using hx)).1
    have g2 := hM2.get h2' (fun hx => by have := hb2 _ hx; omega)
    have k2 := cellOf (o := 0) g2
    have f2 := frozenOf (o := 0) g2
    have hcl2 := ownsRow_one hown2
    simp (config := { maxSteps := 1000000 }) (disch := first | omega | (simp only [sizeAlloc, sizeDrew, sizeSet, sizePut] <;> omega) | fail) only [GS1, GS2, GS3, GS4, GS5, GS6, GS7, GS8, GS9, GS10, GS11, TT_eq, TTl, Nat.reduceAdd, Nat.reduceMul, Nat.reduceSub, Nat.reduceDiv, Nat.reduceMod, Nat.reducePow, Nat.reduceEqDiff, ↓reduceIte, reduceCtorEq, true_and, and_true, and_self, false_and, and_false, Int.reduceToNat, Int.reduceAdd, Int.reduceSub, Int.reduceMul, cond_true, cond_false, List.toList_toArray, Option.map_some, Option.map_none, Option.some.injEq, List.cons_append, List.nil_append, List.length_cons, List.length_nil, List.getD_cons_zero, List.getD_cons_succ, k2, f2, cellsL_one hcl2, hcl2]
    refine hR v' _ (heapSet g2) (ownsRow_mod ?_ ((Mod.refl [B2] w').set (.inl (by simp)) _) (by simpa using hB2)) ?_
    · rw [List.map_append, hc]; exact hown2
    · exact (((hM0.mono (S' := sv.ownBlock.toList) (by simp)).trans hM2 (fun x hx => .inl hx)).mono (fun x hx => List.mem_cons_of_mem _ hx)).set (.inl (by simp)) _
  · have hR := hR0 hd
    simp (config := { maxSteps := 1000000 }) (disch := first | omega | (simp only [sizeAlloc, sizeDrew, sizeSet, sizePut] <;> omega) | fail) only [GS1, GS2, GS3, GS4, GS5, GS6, GS7, GS8, GS9, GS10, GS11, TT_eq, TTl, Nat.reduceAdd, Nat.reduceMul, Nat.reduceSub, Nat.reduceDiv, Nat.reduceMod, Nat.reducePow, Nat.reduceEqDiff, ↓reduceIte, reduceCtorEq, true_and, and_true, and_self, false_and, and_false, Int.reduceToNat, Int.reduceAdd, Int.reduceSub, Int.reduceMul, cond_true, cond_false, List.toList_toArray, Option.map_some, Option.map_none, Option.some.injEq, List.cons_append, List.nil_append, List.length_cons, List.length_nil, List.getD_cons_zero, List.getD_cons_succ]
    exact hR
theorem check0 {S : List UInt8} (h : checkS S = 0) : (walkS S 16 1 0).2.1 = 0 ∧ (walkS S 16 1 0).1 = S.length ∧ S.length ≤ 16384 ∧ 1 ≤ S.length := by
  unfold checkS at h
  have hr : (readS S).2 = 0 := by
    by_cases h0 : (readS S).2 = 0
    · exact h0
    · rw [if_neg h0] at h; exact absurd h h0
  rw [if_pos hr] at h
  have h2 : (readS S).1 = S.length := by
    by_cases h0 : (readS S).1 = S.length
    · exact h0
    · rw [if_neg h0] at h; exact absurd h (by decide)
  unfold readS at hr h2
  by_cases hw : (walkS S 16 1 0).2.1 = 0
  · rw [if_pos hw] at hr h2
    by_cases h3 : 16384 < (walkS S 16 1 0).1
    · rw [if_pos h3] at hr; exact absurd hr (by decide)
    · rw [if_neg h3] at h2
      simp only at h2
      refine ⟨hw, h2, by omega, ?_⟩
      cases S with
      | nil => exact absurd hw walkS_nil
      | cons c r => simp
  · rw [if_neg hw] at hr; exact absurd hr hw
theorem pS_len (S : List UInt8) (l : List PL) : (pS S l).length ≤ l.length := by
  unfold pS; rw [List.length_map]; exact List.length_filter_le _ _
theorem pS_snoc (S : List UInt8) (l : List PL) (p : PL) : pS S (l ++ [p]) = if p.2.2 = 2 then pS S l ++ [cutS S p] else pS S l := by
  unfold pS; rw [List.filter_append]
  by_cases h : p.2.2 = 2 <;> simp [h]
theorem partsS_len (S : List UInt8) : (partsS S).length ≤ S.length := by
  have h1 := (walkS_cnt S 16 1 0 (by omega)).2
  have h2 := pS_len S (walkS S 16 1 0).2.2
  unfold partsS; omega
/-- What a walk has left that tells its places to Parts. -/
def TellP (S : List UInt8) (w0 : World) (l : List PL) (w' : World) : Prop :=
  ∃ sv, w'.heap[w0.heap.size]? = some (.cells #[.string ⟨S.toArray⟩] 9 (0, 0)) ∧ w'.heap[w0.heap.size + 1]? = some (.cells #[sv] 22 (0, 0)) ∧
    w'.ownsRow (w0.heap.size + 2) 9 1 sv (pS S l).length ((pS S l).map strV) ∧ Mod [] w0 w' ∧ w0.heap.size + 2 ≤ w'.heap.size
theorem TellP.mod {S : List UInt8} {w0 : World} {l : List PL} {w w' : World} (h : TellP S w0 l w) (hM : Mod [] w w') : TellP S w0 l w' := by
  obtain ⟨sv, h1, h2, h3, h4, h5⟩ := h
  exact ⟨sv, hM.get h1 (by simp), hM.get h2 (by simp), ownsRow_mod h3 hM (by simp), h4.trans hM (by simp), by have := hM.size; omega⟩
set_option maxRecDepth 20000 in
set_option maxHeartbeats 4000000 in
theorem tParts_cps (S : List UInt8) (hS : S.length ≤ maxLen) (w : World) (R : Ending → World → Prop) (hR0 : checkS S ≠ 0 → ∀ w', Mod [] w w' → R (.returned (.tuple #[.slice none 0 0, .bool false])) w')
    (hR : checkS S = 0 → ∀ sv w', w'.ownsRow w.heap.size 9 1 sv (partsS S).length ((partsS S).map strV) → Mod [] w w' → R (.returned (.tuple #[sv, .bool true])) w') :
    Calls Try.prog 54 #[.string ⟨S.toArray⟩] w R := by
  refine calls_go 4000 okT Try.func54 rfl (rs := [.cell 2 22, .tmp 3]) rfl Try.ntmps54 (args := [.string ⟨S.toArray⟩]) ?_
  simp (config := { maxSteps := 1000000 }) (disch := first | omega | (simp only [sizeAlloc, sizeDrew, sizeSet, sizePut] <;> omega) | fail) only [GS1, GS2, GS3, GS4, GS5, GS6, GS7, GS8, GS9, GS10, GS11, TT_eq, TTl, Nat.reduceAdd, Nat.reduceMul, Nat.reduceSub, Nat.reduceDiv, Nat.reduceMod, Nat.reducePow, Nat.reduceEqDiff, ↓reduceIte, reduceCtorEq, true_and, and_true, and_self, false_and, and_false, Int.reduceToNat, Int.reduceAdd, Int.reduceSub, Int.reduceMul, cond_true, cond_false, List.toList_toArray, Option.map_some, Option.map_none, Option.some.injEq, List.cons_append, List.nil_append, List.length_cons, List.length_nil, List.getD_cons_zero, List.getD_cons_succ]
  have hb1 : ((w.alloc (.cells #[.string ⟨S.toArray⟩] 9)).alloc (.cells #[.slice none 0 0] 22)).heap[w.heap.size]? = some (.cells #[.string ⟨S.toArray⟩] 9 (0, 0)) := by (simp only [heapA, sizeAlloc]; repeat (first | rfl | rw [if_neg (by omega)] | rw [if_pos (by omega)]))
  have hb2 : ((w.alloc (.cells #[.string ⟨S.toArray⟩] 9)).alloc (.cells #[.slice none 0 0] 22)).heap[w.heap.size + 1]? = some (.cells #[.slice none 0 0] 22 (0, 0)) := by (simp only [heapA, sizeAlloc]; repeat (first | rfl | rw [if_neg (by omega)] | rw [if_pos (by omega)]))
  have hM0 := ((Mod.refl [] w).alloc (.cells #[.string ⟨S.toArray⟩] 9)).alloc (.cells #[.slice none 0 0] 22)
  have hz0 : ((w.alloc (.cells #[.string ⟨S.toArray⟩] 9)).alloc (.cells #[.slice none 0 0] 22)).heap.size = w.heap.size + 2 := by simp only [sizeAlloc]
  have hT0 : TellP S w [] ((w.alloc (.cells #[.string ⟨S.toArray⟩] 9)).alloc (.cells #[.slice none 0 0] 22)) := ⟨_, hb1, hb2, World.ownsRow_nil _ _ _ _, hM0, by omega⟩
  have hsz : (w.alloc (.cells #[.string ⟨S.toArray⟩] 9)).heap.size = w.heap.size + 1 := by simp only [sizeAlloc]
  generalize (w.alloc (.cells #[.string ⟨S.toArray⟩] 9)).alloc (.cells #[.slice none 0 0] 22) = w1 at hb1 hb2 hM0 hT0 hz0 ⊢
  refine ⟨fok57, tIs1_cps S hS w1 _ (by omega) _ fun w2 hM => .inl ⟨_, rfl, hold_ops okT (rs := [.cell 2 22, .tmp 3]) rfl ?_⟩⟩
  have hM2 := ((Mod.refl [] w1).alloc _).trans hM (by simp)
  have hT2 := hT0.mod hM2
  have g1 := hM2.get hb1 (by simp)
  have g2 := hM2.get hb2 (by simp)
  have c1 := cellOf (o := 0) g1
  have c2 := cellOf (o := 0) g2
  have f2 := frozenOf (o := 0) g2
  by_cases h : checkS S = 0
  · rw [decide_eq_true h]
    have hR := hR h
    obtain ⟨h1, h2, h3, h4⟩ := check0 h
    have hcnt := (walkS_cnt S 16 1 0 (by omega)).2
    simp (config := { maxSteps := 1000000 }) (disch := first | omega | (simp only [sizeAlloc, sizeDrew, sizeSet, sizePut] <;> omega) | fail) only [GS1, GS2, GS3, GS4, GS5, GS6, GS7, GS8, GS9, GS10, GS11, TT_eq, TTl, Nat.reduceAdd, Nat.reduceMul, Nat.reduceSub, Nat.reduceDiv, Nat.reduceMod, Nat.reducePow, Nat.reduceEqDiff, ↓reduceIte, reduceCtorEq, true_and, and_true, and_self, false_and, and_false, Int.reduceToNat, Int.reduceAdd, Int.reduceSub, Int.reduceMul, cond_true, cond_false, List.toList_toArray, Option.map_some, Option.map_none, Option.some.injEq, List.cons_append, List.nil_append, List.length_cons, List.length_nil, List.getD_cons_zero, List.getD_cons_succ, hsz, c1]
    refine ⟨fok72, tWalk_cps S hS 75 #[.pointer (some ⟨w.heap.size + 1, 0, none⟩), .pointer (some ⟨w.heap.size, 0, none⟩)] fok75 (TellP S w) (fun _ _ _ h hM => h.mod hM) (walkS S 16 1 0).2.2 (fun l a b d w' R' hLt hab hb _ ht hR' => ?_) 16 1 0 [] _ _ (by omega) (by omega) ⟨[], by simp⟩ hT2 fun w3 hT3 => ?_⟩
    · obtain ⟨sv, k1, k2, k3, k4, k5⟩ := ht
      have hll : l.length ≤ S.length := by
        obtain ⟨r, hr⟩ := hLt
        have := congrArg List.length hr
        rw [List.length_append] at this; omega
      have hpl := pS_len S l
      refine parts1_cps S hS a b d hab hb w.heap.size (w.heap.size + 1) (w.heap.size + 2) (by omega) (by omega) (by omega) sv (pS S l) (by omega) w' R' k1 k2 k3 k5 (fun hd => hR' _ ?_) (fun hd sv' w'' q1 q2 q3 => hR' _ ?_)
      · exact ⟨sv, k1, k2, by rw [pS_snoc, if_neg hd]; exact k3, k4, k5⟩
      · have hob : ∀ x ∈ sv.ownBlock.toList, w.heap.size + 2 ≤ x := fun x hx => (k3.lt x (by simpa using hx)).1
        refine ⟨sv', q3.get k1 (by intro hx; simp only [List.mem_cons] at hx; rcases hx with hx | hx; omega; have := hob _ hx; omega), q1, ?_, k4.trans q3 (fun x hx => .inr ?_), by have := q3.size; omega⟩
        · rw [pS_snoc, if_pos hd, List.length_append]; exact q2
        · simp only [List.mem_cons] at hx; rcases hx with hx | hx; omega; have := hob _ hx; omega
    · unfold wkE
      rw [if_pos h1]
      refine .inl ⟨_, rfl, hold_ops okT (rs := [.cell 2 22, .tmp 3]) rfl ?_⟩
      obtain ⟨sv, k1, k2, k3, k4, k5⟩ := hT3
      have c3 := cellOf (o := 0) k2
      have f3 := frozenOf (o := 0) k2
      have ho3 := ownsRow_one k3
      rw [List.nil_append] at k3
      simp (config := { maxSteps := 1000000 }) (disch := first | omega | (simp only [sizeAlloc, sizeDrew, sizeSet, sizePut] <;> omega) | fail) only [GS1, GS2, GS3, GS4, GS5, GS6, GS7, GS8, GS9, GS10, GS11, TT_eq, TTl, Nat.reduceAdd, Nat.reduceMul, Nat.reduceSub, Nat.reduceDiv, Nat.reduceMod, Nat.reducePow, Nat.reduceEqDiff, ↓reduceIte, reduceCtorEq, true_and, and_true, and_self, false_and, and_false, Int.reduceToNat, Int.reduceAdd, Int.reduceSub, Int.reduceMul, cond_true, cond_false, List.toList_toArray, Option.map_some, Option.map_none, Option.some.injEq, List.cons_append, List.nil_append, List.length_cons, List.length_nil, List.getD_cons_zero, List.getD_cons_succ, c3, f3, cellsL_one ho3, ho3, leaveW, loadW]
      refine ⟨sv, rfl, hR sv _ (ownsRow_base (ownsRow_mod k3 ((Mod.refl [w.heap.size + 1] w3).set (.inl (by simp)) _) (by simp)) (by omega)) (k4.set (.inr (by simp)) _)⟩
  · rw [decide_eq_false h]
    simp (config := { maxSteps := 1000000 }) (disch := first | omega | (simp only [sizeAlloc, sizeDrew, sizeSet, sizePut] <;> omega) | fail) only [GS1, GS2, GS3, GS4, GS5, GS6, GS7, GS8, GS9, GS10, GS11, TT_eq, TTl, Nat.reduceAdd, Nat.reduceMul, Nat.reduceSub, Nat.reduceDiv, Nat.reduceMod, Nat.reducePow, Nat.reduceEqDiff, ↓reduceIte, reduceCtorEq, true_and, and_true, and_self, false_and, and_false, Int.reduceToNat, Int.reduceAdd, Int.reduceSub, Int.reduceMul, cond_true, cond_false, List.toList_toArray, Option.map_some, Option.map_none, Option.some.injEq, List.cons_append, List.nil_append, List.length_cons, List.length_nil, List.getD_cons_zero, List.getD_cons_succ, c2, f2, hsz, leaveW, loadW]
    exact ⟨_, rfl, hR0 h _ ((hM0.trans hM2 (by simp)).set (.inr (by simp)) _)⟩
end Go.Proofs.Yticoollhaachfaa
