/-
  The front of a term (walks). Heads of terms: which there are (plain). The walk through a term. The reference's walk through a term. The reference's Read, Check, May. term.Read: what is thrown is caught. term.Read.
-/
import Derived.Test.YtdflchgfhmjhbaaGreatDoorQvZ0
set_option linter.unusedSimpArgs false
set_option linter.unusedVariables false
namespace Go.Proofs.YtdflchgfhmjhbaaGreatDoor
set_option maxHeartbeats 8000000
set_option maxRecDepth 20000
open Go Go.Wk Go.RowKit
attribute [local irreducible] go Hold
/-- What 'must' throws. -/
def wrongV (e : Int) : List PanicEntry := [{ v := .iface 252 (.agg #[.int .i64 e]), recovered := false }]
theorem must_cps (e : Int) (w : World) (R : Ending → World → Prop) (h0 : e = 0 → R (.returned (.tuple #[])) w) (h1 : e ≠ 0 → R (.panicked (wrongV e)) w) :
    Calls Tryz.prog 150 #[.int .i64 e] w R := by
  refine calls_go 4000 okT Tryz.func150 rfl (rs := []) rfl Tryz.ntmps150 (args := [.int .i64 e]) ?_
  by_cases h : e = 0
  · subst h
    simp (maxSteps := 1000000) (disch := first | omega | (simp only [sizeAlloc, sizeDrew, sizeSet, sizePut] <;> omega) | fail) only [GS, TT_eq, TTl, Nat.reduceAdd, Nat.reduceMul, Nat.reduceSub, Nat.reduceDiv, Nat.reduceMod, Nat.reducePow, Nat.reduceEqDiff, ↓reduceIte, reduceCtorEq, Int.reduceToNat, Int.reduceAdd, Int.reduceSub, Int.reduceMul]
    exact h0 rfl
  · have h1 := h1 h
    simp (maxSteps := 1000000) (disch := first | omega | (simp only [sizeAlloc, sizeDrew, sizeSet, sizePut] <;> omega) | fail) only [GS, TT_eq, TTl, Nat.reduceAdd, Nat.reduceMul, Nat.reduceSub, Nat.reduceDiv, Nat.reduceMod, Nat.reducePow, Nat.reduceEqDiff, ↓reduceIte, reduceCtorEq, Int.reduceToNat, Int.reduceAdd, Int.reduceSub, Int.reduceMul, h]
    unfold panW
    refine hold_ex okT (rs := []) rfl ?_
    simp (maxSteps := 1000000) (disch := first | omega | (simp only [sizeAlloc, sizeDrew, sizeSet, sizePut] <;> omega) | fail) only [GS, TT_eq, TTl, Nat.reduceAdd, Nat.reduceMul, Nat.reduceSub, Nat.reduceDiv, Nat.reduceMod, Nat.reducePow, Nat.reduceEqDiff, ↓reduceIte, reduceCtorEq, Int.reduceToNat, Int.reduceAdd, Int.reduceSub, Int.reduceMul]
    exact h1
/-- The front of a term: how many bytes, how many parts, an error. -/
def frontS : List UInt8 → Nat × Nat × Int
  | [] => (0, 0, 6)
  | c :: r => if c.toNat = 100 then (1 + (readTextS r 1024).2.1, 0, (readTextS r 1024).2.2)
    else if c.toNat = 97 then (if (readTextS r 32).2.2 = 0 ∧ nameS (readTextS r 32).1 = false then (0, 0, 7) else (1 + (readTextS r 32).2.1, 0, (readTextS r 32).2.2))
    else if c.toNat = 114 then (if (readNumS r).2.2 = 0 ∧ 32 < (readNumS r).1 then (0, 0, 5) else (1 + (readNumS r).2.1, (readNumS r).1, (readNumS r).2.2))
    else if c.toNat = 104 then (1, 1, 0) else if c.toNat = 109 then (1, 2, 0) else if c.toNat = 115 then (1, 3, 0) else (0, 0, 7)
theorem readTextS_len {s : List UInt8} {m : Nat} {t : List UInt8} {n : Nat} {e : Int} (h : readTextS s m = (t, n, e)) : n ≤ s.length ∧ t.length ≤ s.length := by
  unfold readTextS at h
  generalize hr : readNumS s = x at h
  obtain ⟨v, k, e'⟩ := x
  simp only at h
  split at h
  · simp only [Prod.mk.injEq] at h; obtain ⟨rfl, rfl, _⟩ := h; simp
  · rename_i he
    have he : e' = 0 := Decidable.not_not.1 he
    subst he
    have := readNumS_len hr
    split at h
    · simp only [Prod.mk.injEq] at h; obtain ⟨rfl, rfl, _⟩ := h; simp
    · split at h
      · simp only [Prod.mk.injEq] at h; obtain ⟨rfl, rfl, _⟩ := h; simp
      · simp only [Prod.mk.injEq] at h; obtain ⟨rfl, rfl, _⟩ := h
        simp; omega
/-- What 'front' does. -/
def frE (x : Nat × Nat × Int) : Ending := if x.2.2 = 0 then .returned (.tuple #[.int .i64 x.1, .int .i64 x.2.1]) else .panicked (wrongV x.2.2)
theorem tFront_cps (s : List UInt8) (hs : s.length ≤ maxLen) (w : World) (R : Ending → World → Prop) (hR : ∀ w', Mod [] w w' → R (frE (frontS s)) w') :
    Calls Tryz.prog 157 #[.string ⟨s.toArray⟩] w R := by
  have hs' := hs
  unfold maxLen at hs
  unfold frE at hR
  cases s with
  | nil =>
    have hR : R (.panicked (wrongV 6)) w := hR w (Mod.refl _ _)
    refine calls_go 4000 okT Tryz.func157 rfl (rs := [.tmp 2, .tmp 3]) rfl Tryz.ntmps157 (args := [.string ⟨([] : List UInt8).toArray⟩]) ?_
    simp (maxSteps := 1000000) (disch := first | omega | (simp only [sizeAlloc, sizeDrew, sizeSet, sizePut] <;> omega) | fail) only [GS, TT_eq, TTl, Nat.reduceAdd, Nat.reduceMul, Nat.reduceSub, Nat.reduceDiv, Nat.reduceMod, Nat.reducePow, Nat.reduceEqDiff, ↓reduceIte, reduceCtorEq, Int.reduceToNat, Int.reduceAdd, Int.reduceSub, Int.reduceMul, eq_self]
    refine ⟨fok150, must_cps 6 _ _ (fun h => absurd h (by decide)) fun _ => .inr ⟨_, rfl, hold_ex okT (rs := [.tmp 2, .tmp 3]) rfl ?_⟩⟩
    simp (maxSteps := 1000000) (disch := first | omega | (simp only [sizeAlloc, sizeDrew, sizeSet, sizePut] <;> omega) | fail) only [GS, TT_eq, TTl, Nat.reduceAdd, Nat.reduceMul, Nat.reduceSub, Nat.reduceDiv, Nat.reduceMod, Nat.reducePow, Nat.reduceEqDiff, ↓reduceIte, reduceCtorEq, Int.reduceToNat, Int.reduceAdd, Int.reduceSub, Int.reduceMul]
    exact hR
  | cons c r =>
    simp only [List.length_cons] at hs
    have hr' : r.length ≤ maxLen := by unfold maxLen; omega
    have hc := c.toNat_lt
    simp only [frontS] at hR
    refine calls_go 4000 okT Tryz.func157 rfl (rs := [.tmp 2, .tmp 3]) rfl Tryz.ntmps157 (args := [.string ⟨(c :: r).toArray⟩]) ?_
    by_cases h1 : c.toNat = 100
    · simp only [if_pos h1] at hR
      simp (maxSteps := 1000000) (disch := first | omega | (simp only [sizeAlloc, sizeDrew, sizeSet, sizePut] <;> omega) | fail) only [GS, TT_eq, TTl, Nat.reduceAdd, Nat.reduceMul, Nat.reduceSub, Nat.reduceDiv, Nat.reduceMod, Nat.reducePow, Nat.reduceEqDiff, ↓reduceIte, reduceCtorEq, Int.reduceToNat, Int.reduceAdd, Int.reduceSub, Int.reduceMul, List.drop_succ_cons, List.drop_zero]
      refine ⟨fok158, oReadText_cps r 1024 (by omega) hr' _ _ (.inl ⟨_, rfl, hold_ops okT (rs := [.tmp 2, .tmp 3]) rfl ?_⟩)⟩
      generalize hx : readTextS r 1024 = x at hR ⊢
      obtain ⟨t, n, e⟩ := x
      have := readTextS_len hx
      simp only at hR
      unfold rtV
      simp (maxSteps := 1000000) (disch := first | omega | (simp only [sizeAlloc, sizeDrew, sizeSet, sizePut] <;> omega) | fail) only [GS, TT_eq, TTl, Nat.reduceAdd, Nat.reduceMul, Nat.reduceSub, Nat.reduceDiv, Nat.reduceMod, Nat.reducePow, Nat.reduceEqDiff, ↓reduceIte, reduceCtorEq, Int.reduceToNat, Int.reduceAdd, Int.reduceSub, Int.reduceMul]
      refine ⟨fok150, must_cps e _ _ (fun he => .inl ⟨_, rfl, hold_ops okT (rs := [.tmp 2, .tmp 3]) rfl ?_⟩) fun he => .inr ⟨_, rfl, hold_ex okT (rs := [.tmp 2, .tmp 3]) rfl ?_⟩⟩
      · rw [if_pos he] at hR
        simp (maxSteps := 1000000) (disch := first | omega | (simp only [sizeAlloc, sizeDrew, sizeSet, sizePut] <;> omega) | fail) only [GS, TT_eq, TTl, Nat.reduceAdd, Nat.reduceMul, Nat.reduceSub, Nat.reduceDiv, Nat.reduceMod, Nat.reducePow, Nat.reduceEqDiff, ↓reduceIte, reduceCtorEq, Int.reduceToNat, Int.reduceAdd, Int.reduceSub, Int.reduceMul]
        exact hR _ (Mod.refl _ _)
      · rw [if_neg he] at hR
        simp (maxSteps := 1000000) (disch := first | omega | (simp only [sizeAlloc, sizeDrew, sizeSet, sizePut] <;> omega) | fail) only [GS, TT_eq, TTl, Nat.reduceAdd, Nat.reduceMul, Nat.reduceSub, Nat.reduceDiv, Nat.reduceMod, Nat.reducePow, Nat.reduceEqDiff, ↓reduceIte, reduceCtorEq, Int.reduceToNat, Int.reduceAdd, Int.reduceSub, Int.reduceMul]
        exact hR _ (Mod.refl _ _)
    · simp only [if_neg h1] at hR
      by_cases h2 : c.toNat = 97
      · simp only [if_pos h2] at hR
        simp (maxSteps := 1000000) (disch := first | omega | (simp only [sizeAlloc, sizeDrew, sizeSet, sizePut] <;> omega) | fail) only [GS, TT_eq, TTl, Nat.reduceAdd, Nat.reduceMul, Nat.reduceSub, Nat.reduceDiv, Nat.reduceMod, Nat.reducePow, Nat.reduceEqDiff, ↓reduceIte, reduceCtorEq, Int.reduceToNat, Int.reduceAdd, Int.reduceSub, Int.reduceMul, List.drop_succ_cons, List.drop_zero]
        refine ⟨fok158, oReadText_cps r 32 (by omega) hr' _ _ (.inl ⟨_, rfl, hold_ops okT (rs := [.tmp 2, .tmp 3]) rfl ?_⟩)⟩
        generalize hx : readTextS r 32 = x at hR ⊢
        obtain ⟨t, n, e⟩ := x
        have hl := readTextS_len hx
        simp only at hR
        unfold rtV
        simp (maxSteps := 1000000) (disch := first | omega | (simp only [sizeAlloc, sizeDrew, sizeSet, sizePut] <;> omega) | fail) only [GS, TT_eq, TTl, Nat.reduceAdd, Nat.reduceMul, Nat.reduceSub, Nat.reduceDiv, Nat.reduceMod, Nat.reducePow, Nat.reduceEqDiff, ↓reduceIte, reduceCtorEq, Int.reduceToNat, Int.reduceAdd, Int.reduceSub, Int.reduceMul]
        refine ⟨fok150, must_cps e _ _ (fun he => .inl ⟨_, rfl, hold_ops okT (rs := [.tmp 2, .tmp 3]) rfl ?_⟩) fun he => .inr ⟨_, rfl, hold_ex okT (rs := [.tmp 2, .tmp 3]) rfl ?_⟩⟩
        · subst he
          simp (maxSteps := 1000000) (disch := first | omega | (simp only [sizeAlloc, sizeDrew, sizeSet, sizePut] <;> omega) | fail) only [GS, TT_eq, TTl, Nat.reduceAdd, Nat.reduceMul, Nat.reduceSub, Nat.reduceDiv, Nat.reduceMod, Nat.reducePow, Nat.reduceEqDiff, ↓reduceIte, reduceCtorEq, Int.reduceToNat, Int.reduceAdd, Int.reduceSub, Int.reduceMul]
          refine ⟨fok162, tNamed_cps t (by unfold maxLen; omega) _ _ fun w1 hM => .inl ⟨_, rfl, hold_ops okT (rs := [.tmp 2, .tmp 3]) rfl ?_⟩⟩
          cases hn : nameS t
          · simp only [hn, and_self, if_true] at hR
            rw [if_neg (by decide)] at hR
            simp (maxSteps := 1000000) (disch := first | omega | (simp only [sizeAlloc, sizeDrew, sizeSet, sizePut] <;> omega) | fail) only [GS, TT_eq, TTl, Nat.reduceAdd, Nat.reduceMul, Nat.reduceSub, Nat.reduceDiv, Nat.reduceMod, Nat.reducePow, Nat.reduceEqDiff, ↓reduceIte, reduceCtorEq, Int.reduceToNat, Int.reduceAdd, Int.reduceSub, Int.reduceMul]
            refine ⟨fok150, must_cps 7 _ _ (fun h => absurd h (by decide)) fun _ => .inr ⟨_, rfl, hold_ex okT (rs := [.tmp 2, .tmp 3]) rfl ?_⟩⟩
            simp (maxSteps := 1000000) (disch := first | omega | (simp only [sizeAlloc, sizeDrew, sizeSet, sizePut] <;> omega) | fail) only [GS, TT_eq, TTl, Nat.reduceAdd, Nat.reduceMul, Nat.reduceSub, Nat.reduceDiv, Nat.reduceMod, Nat.reducePow, Nat.reduceEqDiff, ↓reduceIte, reduceCtorEq, Int.reduceToNat, Int.reduceAdd, Int.reduceSub, Int.reduceMul]
            exact hR _ hM
          · simp only [hn, Bool.true_eq_false, and_false, if_false, if_true] at hR
            simp (maxSteps := 1000000) (disch := first | omega | (simp only [sizeAlloc, sizeDrew, sizeSet, sizePut] <;> omega) | fail) only [GS, TT_eq, TTl, Nat.reduceAdd, Nat.reduceMul, Nat.reduceSub, Nat.reduceDiv, Nat.reduceMod, Nat.reducePow, Nat.reduceEqDiff, ↓reduceIte, reduceCtorEq, Int.reduceToNat, Int.reduceAdd, Int.reduceSub, Int.reduceMul]
            exact hR _ hM
        · simp only [he, false_and, if_false] at hR
          simp (maxSteps := 1000000) (disch := first | omega | (simp only [sizeAlloc, sizeDrew, sizeSet, sizePut] <;> omega) | fail) only [GS, TT_eq, TTl, Nat.reduceAdd, Nat.reduceMul, Nat.reduceSub, Nat.reduceDiv, Nat.reduceMod, Nat.reducePow, Nat.reduceEqDiff, ↓reduceIte, reduceCtorEq, Int.reduceToNat, Int.reduceAdd, Int.reduceSub, Int.reduceMul]
          exact hR _ (Mod.refl _ _)
      · simp only [if_neg h2] at hR
        by_cases h3 : c.toNat = 114
        · simp only [if_pos h3] at hR
          simp (maxSteps := 1000000) (disch := first | omega | (simp only [sizeAlloc, sizeDrew, sizeSet, sizePut] <;> omega) | fail) only [GS, TT_eq, TTl, Nat.reduceAdd, Nat.reduceMul, Nat.reduceSub, Nat.reduceDiv, Nat.reduceMod, Nat.reducePow, Nat.reduceEqDiff, ↓reduceIte, reduceCtorEq, Int.reduceToNat, Int.reduceAdd, Int.reduceSub, Int.reduceMul, List.drop_succ_cons, List.drop_zero]
          refine ⟨fok137, oReadNum_cps r hr' _ _ (.inl ⟨_, rfl, hold_ops okT (rs := [.tmp 2, .tmp 3]) rfl ?_⟩)⟩
          generalize hx : readNumS r = x at hR ⊢
          obtain ⟨v, n, e⟩ := x
          simp only at hR
          unfold rnV
          simp (maxSteps := 1000000) (disch := first | omega | (simp only [sizeAlloc, sizeDrew, sizeSet, sizePut] <;> omega) | fail) only [GS, TT_eq, TTl, Nat.reduceAdd, Nat.reduceMul, Nat.reduceSub, Nat.reduceDiv, Nat.reduceMod, Nat.reducePow, Nat.reduceEqDiff, ↓reduceIte, reduceCtorEq, Int.reduceToNat, Int.reduceAdd, Int.reduceSub, Int.reduceMul]
          refine ⟨fok150, must_cps e _ _ (fun he => .inl ⟨_, rfl, hold_ops okT (rs := [.tmp 2, .tmp 3]) rfl ?_⟩) fun he => .inr ⟨_, rfl, hold_ex okT (rs := [.tmp 2, .tmp 3]) rfl ?_⟩⟩
          · subst he
            have hl := readNumS_len hx
            by_cases hv : 32 < v
            · simp only [hv, and_self, if_true] at hR
              rw [if_neg (by decide)] at hR
              simp (maxSteps := 1000000) (disch := first | omega | (simp only [sizeAlloc, sizeDrew, sizeSet, sizePut] <;> omega) | fail) only [GS, TT_eq, TTl, Nat.reduceAdd, Nat.reduceMul, Nat.reduceSub, Nat.reduceDiv, Nat.reduceMod, Nat.reducePow, Nat.reduceEqDiff, ↓reduceIte, reduceCtorEq, Int.reduceToNat, Int.reduceAdd, Int.reduceSub, Int.reduceMul]
              refine ⟨fok150, must_cps 5 _ _ (fun h => absurd h (by decide)) fun _ => .inr ⟨_, rfl, hold_ex okT (rs := [.tmp 2, .tmp 3]) rfl ?_⟩⟩
              simp (maxSteps := 1000000) (disch := first | omega | (simp only [sizeAlloc, sizeDrew, sizeSet, sizePut] <;> omega) | fail) only [GS, TT_eq, TTl, Nat.reduceAdd, Nat.reduceMul, Nat.reduceSub, Nat.reduceDiv, Nat.reduceMod, Nat.reducePow, Nat.reduceEqDiff, ↓reduceIte, reduceCtorEq, Int.reduceToNat, Int.reduceAdd, Int.reduceSub, Int.reduceMul]
              exact hR _ (Mod.refl _ _)
            · simp only [hv, and_false, if_false, if_true] at hR
              simp (maxSteps := 1000000) (disch := first | omega | (simp only [sizeAlloc, sizeDrew, sizeSet, sizePut] <;> omega) | fail) only [GS, TT_eq, TTl, Nat.reduceAdd, Nat.reduceMul, Nat.reduceSub, Nat.reduceDiv, Nat.reduceMod, Nat.reducePow, Nat.reduceEqDiff, ↓reduceIte, reduceCtorEq, Int.reduceToNat, Int.reduceAdd, Int.reduceSub, Int.reduceMul]
              exact hR _ (Mod.refl _ _)
          · simp only [he, false_and, if_false] at hR
            simp (maxSteps := 1000000) (disch := first | omega | (simp only [sizeAlloc, sizeDrew, sizeSet, sizePut] <;> omega) | fail) only [GS, TT_eq, TTl, Nat.reduceAdd, Nat.reduceMul, Nat.reduceSub, Nat.reduceDiv, Nat.reduceMod, Nat.reducePow, Nat.reduceEqDiff, ↓reduceIte, reduceCtorEq, Int.reduceToNat, Int.reduceAdd, Int.reduceSub, Int.reduceMul]
            exact hR _ (Mod.refl _ _)
        · simp only [if_neg h3] at hR
          by_cases h4 : c.toNat = 104
          · simp only [if_pos h4, if_true] at hR
            simp (maxSteps := 1000000) (disch := first | omega | (simp only [sizeAlloc, sizeDrew, sizeSet, sizePut] <;> omega) | fail) only [GS, TT_eq, TTl, Nat.reduceAdd, Nat.reduceMul, Nat.reduceSub, Nat.reduceDiv, Nat.reduceMod, Nat.reducePow, Nat.reduceEqDiff, ↓reduceIte, reduceCtorEq, Int.reduceToNat, Int.reduceAdd, Int.reduceSub, Int.reduceMul]
            exact hR _ (Mod.refl _ _)
          · simp only [if_neg h4] at hR
            by_cases h5 : c.toNat = 109
            · simp only [if_pos h5, if_true] at hR
              simp (maxSteps := 1000000) (disch := first | omega | (simp only [sizeAlloc, sizeDrew, sizeSet, sizePut] <;> omega) | fail) only [GS, TT_eq, TTl, Nat.reduceAdd, Nat.reduceMul, Nat.reduceSub, Nat.reduceDiv, Nat.reduceMod, Nat.reducePow, Nat.reduceEqDiff, ↓reduceIte, reduceCtorEq, Int.reduceToNat, Int.reduceAdd, Int.reduceSub, Int.reduceMul]
              exact hR _ (Mod.refl _ _)
            · simp only [if_neg h5] at hR
              by_cases h6 : c.toNat = 115
              · simp only [if_pos h6, if_true] at hR
                simp (maxSteps := 1000000) (disch := first | omega | (simp only [sizeAlloc, sizeDrew, sizeSet, sizePut] <;> omega) | fail) only [GS, TT_eq, TTl, Nat.reduceAdd, Nat.reduceMul, Nat.reduceSub, Nat.reduceDiv, Nat.reduceMod, Nat.reducePow, Nat.reduceEqDiff, ↓reduceIte, reduceCtorEq, Int.reduceToNat, Int.reduceAdd, Int.reduceSub, Int.reduceMul]
                exact hR _ (Mod.refl _ _)
              · simp only [if_neg h6] at hR
                rw [if_neg (by decide)] at hR
                simp (maxSteps := 1000000) (disch := first | omega | (simp only [sizeAlloc, sizeDrew, sizeSet, sizePut] <;> omega) | fail) only [GS, TT_eq, TTl, Nat.reduceAdd, Nat.reduceMul, Nat.reduceSub, Nat.reduceDiv, Nat.reduceMod, Nat.reducePow, Nat.reduceEqDiff, ↓reduceIte, reduceCtorEq, Int.reduceToNat, Int.reduceAdd, Int.reduceSub, Int.reduceMul]
                refine ⟨fok150, must_cps 7 _ _ (fun h => absurd h (by decide)) fun _ => .inr ⟨_, rfl, hold_ex okT (rs := [.tmp 2, .tmp 3]) rfl ?_⟩⟩
                simp (maxSteps := 1000000) (disch := first | omega | (simp only [sizeAlloc, sizeDrew, sizeSet, sizePut] <;> omega) | fail) only [GS, TT_eq, TTl, Nat.reduceAdd, Nat.reduceMul, Nat.reduceSub, Nat.reduceDiv, Nat.reduceMod, Nat.reducePow, Nat.reduceEqDiff, ↓reduceIte, reduceCtorEq, Int.reduceToNat, Int.reduceAdd, Int.reduceSub, Int.reduceMul]
                exact hR _ (Mod.refl _ _)
theorem valL_digL (v : Nat) : valL (digL v) = v := by
  induction v using Nat.strongRecOn with
  | _ v ih =>
    by_cases h : v = 0
    · subst h; rw [digL_zero]; rfl
    · rw [digL_step h, valL_snoc, ih (v / 256) (by omega), UInt8.toNat_ofNat']
      omega
theorem readNum_of (v : Nat) (hv : v < 18446744073709551616) (rest : List UInt8) : readNumS (numL v ++ rest) = (v, (numL v).length, 0) := by
  unfold numL
  by_cases h : v < 248
  · rw [if_pos h]
    simp only [List.cons_append, List.nil_append, readNumS, List.length_cons, List.length_nil]
    rw [if_pos (by rw [UInt8.toNat_ofNat']; omega), UInt8.toNat_ofNat', Nat.mod_eq_of_lt (by omega)]
  · rw [if_neg h]
    have h8 := nd8 hv
    have hc : (UInt8.ofNat (247 + nd v)).toNat = 247 + nd v := by rw [UInt8.toNat_ofNat']; omega
    have h1 := nd1 (v := v) (by omega)
    have hl := digL_len v
    simp only [List.cons_append, readNumS]
    obtain ⟨x, r, hx, hx0⟩ := digL_head v (by omega)
    have ht : (digL v ++ rest).take ((UInt8.ofNat (247 + nd v)).toNat - 247) = digL v := by
      rw [hc, show 247 + nd v - 247 = (digL v).length by omega, List.take_left']; rfl
    have hh : (digL v ++ rest).headD 0 ≠ 0 := by rw [hx]; simpa using hx0
    rw [if_neg (by omega), if_neg (by rw [List.length_append]; omega), ht, valL_digL, if_neg (by rintro (e | e); exact hh e; omega)]
    simp only [List.length_cons, hc, hl]
    rw [show 247 + nd v - 247 = nd v from by omega]
theorem readNum_is {s : List UInt8} {v n : Nat} (h : readNumS s = (v, n, 0)) : ∃ rest, s = numL v ++ rest ∧ n = (numL v).length ∧ v < 18446744073709551616 := by
  have hb := readNumS_len h
  cases s with
  | nil => simp [readNumS] at h
  | cons c r =>
    have hc := c.toNat_lt
    simp only [readNumS] at h
    split at h
    · rename_i h1
      simp only [Prod.mk.injEq, and_true] at h
      obtain ⟨rfl, rfl⟩ := h
      refine ⟨r, ?_, ?_, by omega⟩
      · unfold numL; rw [if_pos h1]; simp
      · unfold numL; rw [if_pos h1]; rfl
    · rename_i h1
      split at h
      · simp at h
      · rename_i h2
        split at h
        · simp at h
        · rename_i h3
          simp only [Prod.mk.injEq, and_true] at h
          obtain ⟨rfl, rfl⟩ := h
          have hlt : (r.take (c.toNat - 247)).length = c.toNat - 247 := by rw [List.length_take]; omega
          have hne : r.take (c.toNat - 247) ≠ [] := by intro e; rw [e] at hlt; simp at hlt; omega
          have hd : (r.take (c.toNat - 247)).headD 0 = r.headD 0 := by
            cases r with
            | nil => simp
            | cons a r => cases hk : c.toNat - 247 with
              | zero => omega
              | succ k => simp
          have := (readNum_num (c := c) (d := r.take (c.toNat - 247)) (by omega) hne).2 (by rw [hd]; exact h3)
          refine ⟨r.drop (c.toNat - 247), by rw [this]; simp, by rw [this]; simp [hlt], hb.2.2⟩
theorem readText_of (t : List UInt8) (m : Nat) (h : t.length ≤ m) (hm : m ≤ 2000) (rest : List UInt8) : readTextS (numL t.length ++ t ++ rest) m = (t, (numL t.length ++ t).length, 0) := by
  unfold readTextS
  rw [List.append_assoc, readNum_of t.length (by omega)]
  simp only [ne_eq, not_true_eq_false, if_false]
  rw [if_neg (by omega), if_neg (by simp), List.drop_left, List.take_left', List.length_append]
  rfl
theorem readText_is {s : List UInt8} {m : Nat} {t : List UInt8} {n : Nat} (h : readTextS s m = (t, n, 0)) : ∃ rest, s = numL t.length ++ t ++ rest ∧ n = (numL t.length ++ t).length ∧ t.length ≤ m := by
  unfold readTextS at h
  generalize hr : readNumS s = x at h
  obtain ⟨v, k, e'⟩ := x
  simp only at h
  split at h
  · rename_i he
    simp only [Prod.mk.injEq] at h; exact absurd h.2.2 he
  · rename_i he
    have he : e' = 0 := Decidable.not_not.1 he
    subst he
    split at h
    · simp at h
    · rename_i h2
      split at h
      · simp at h
      · rename_i h3
        simp only [Prod.mk.injEq, and_true] at h
        obtain ⟨h4, h5⟩ := h
        obtain ⟨rest, rfl, rfl, hv⟩ := readNum_is hr
        rw [List.drop_left] at h4
        have hl : t.length = v := by
          rw [← h4, List.length_take]; simp at h3; omega
        subst hl
        refine ⟨rest.drop t.length, ?_, by rw [← h5, List.length_append], by omega⟩
        rw [List.append_assoc]
        congr 1
        exact ((congrArg (· ++ rest.drop t.length) h4).symm.trans (List.take_append_drop _ _)).symm
/-- A head of a term, with so many parts behind it. -/
def Hd (h : List UInt8) (k : Nat) : Prop :=
  (k = 0 ∧ ∃ t, t.length ≤ 1024 ∧ h = 100 :: (numL t.length ++ t)) ∨ (k = 0 ∧ ∃ t, t.length ≤ 32 ∧ nameS t = true ∧ h = 97 :: (numL t.length ++ t)) ∨
  (k ≤ 32 ∧ h = 114 :: numL k) ∨ (k = 1 ∧ h = [104]) ∨ (k = 2 ∧ h = [109]) ∨ (k = 3 ∧ h = [115])
theorem Hd.pos {h : List UInt8} {k : Nat} (hh : Hd h k) : 1 ≤ h.length := by
  rcases hh with ⟨_, t, _, rfl⟩ | ⟨_, t, _, _, rfl⟩ | ⟨_, rfl⟩ | ⟨_, rfl⟩ | ⟨_, rfl⟩ | ⟨_, rfl⟩ <;> simp
theorem front_of {h : List UInt8} {k : Nat} (hh : Hd h k) (rest : List UInt8) : frontS (h ++ rest) = (h.length, k, 0) := by
  rcases hh with ⟨rfl, t, ht, rfl⟩ | ⟨rfl, t, ht, hn, rfl⟩ | ⟨hk, rfl⟩ | ⟨rfl, rfl⟩ | ⟨rfl, rfl⟩ | ⟨rfl, rfl⟩
  · simp only [List.cons_append, frontS]
    rw [if_pos (by decide), readText_of t 1024 ht (by omega) rest]
    simp; omega
  · simp only [List.cons_append, frontS]
    rw [if_neg (by decide), if_pos (by decide), readText_of t 32 ht (by omega) rest]
    simp [hn]; omega
  · simp only [List.cons_append, frontS]
    rw [if_neg (by decide), if_neg (by decide), if_pos (by decide), readNum_of k (by omega) rest]
    rw [if_neg (by simp; omega)]
    simp; omega
  · rfl
  · rfl
  · rfl
theorem front_is {s : List UInt8} {n k : Nat} (h : frontS s = (n, k, 0)) : ∃ hd rest, s = hd ++ rest ∧ n = hd.length ∧ Hd hd k := by
  cases s with
  | nil => simp [frontS] at h
  | cons c r =>
    simp only [frontS] at h
    have hcc : ∀ x : UInt8, c.toNat = x.toNat → c = x := fun x hx => UInt8.toNat_inj.1 hx
    split at h
    · rename_i h1
      have := hcc 100 h1
      subst this
      generalize hx : readTextS r 1024 = x at h
      obtain ⟨t, m, e⟩ := x
      simp only [Prod.mk.injEq] at h
      obtain ⟨rfl, rfl, rfl⟩ := h
      obtain ⟨rest, rfl, rfl, ht⟩ := readText_is hx
      exact ⟨100 :: (numL t.length ++ t), rest, by simp, by simp; omega, .inl ⟨rfl, t, ht, rfl⟩⟩
    · split at h
      · rename_i h1
        have := hcc 97 h1
        subst this
        generalize hx : readTextS r 32 = x at h
        obtain ⟨t, m, e⟩ := x
        simp only at h
        split at h
        · simp at h
        · rename_i h2
          simp only [Prod.mk.injEq] at h
          obtain ⟨rfl, rfl, rfl⟩ := h
          obtain ⟨rest, rfl, rfl, ht⟩ := readText_is hx
          refine ⟨97 :: (numL t.length ++ t), rest, by simp, by simp; omega, .inr (.inl ⟨rfl, t, ht, ?_, rfl⟩)⟩
          cases hn : nameS t with
          | true => rfl
          | false => exact absurd ⟨rfl, hn⟩ h2
      · split at h
        · rename_i h1
          have := hcc 114 h1
          subst this
          generalize hx : readNumS r = x at h
          obtain ⟨v, m, e⟩ := x
          simp only at h
          split at h
          · simp at h
          · rename_i h2
            simp only [Prod.mk.injEq] at h
            obtain ⟨rfl, rfl, rfl⟩ := h
            obtain ⟨rest, rfl, rfl, hv⟩ := readNum_is hx
            exact ⟨114 :: numL v, rest, by simp, by simp; omega, .inr (.inr (.inl ⟨Nat.le_of_not_lt fun hh => h2 ⟨rfl, hh⟩, rfl⟩))⟩
        · split at h
          · rename_i h1
            have := hcc 104 h1
            subst this
            simp only [Prod.mk.injEq] at h
            exact ⟨[104], r, rfl, by rw [← h.1]; rfl, .inr (.inr (.inr (.inl ⟨h.2.1.symm, rfl⟩)))⟩
          · split at h
            · rename_i h1
              have := hcc 109 h1
              subst this
              simp only [Prod.mk.injEq] at h
              exact ⟨[109], r, rfl, by rw [← h.1]; rfl, .inr (.inr (.inr (.inr (.inl ⟨h.2.1.symm, rfl⟩))))⟩
            · split at h
              · rename_i h1
                have := hcc 115 h1
                subst this
                simp only [Prod.mk.injEq] at h
                exact ⟨[115], r, rfl, by rw [← h.1]; rfl, .inr (.inr (.inr (.inr (.inr ⟨h.2.1.symm, rfl⟩))))⟩
              · simp at h
/-- What stands ahead decides which head it is. -/
theorem Hd.eq {h h' x y : List UInt8} {k k' : Nat} (hh : Hd h k) (hh' : Hd h' k') (e : h ++ x = h' ++ y) : h = h' ∧ x = y ∧ k = k' := by
  have h1 := front_of hh x
  have h2 := front_of hh' y
  rw [e, h2] at h1
  simp only [Prod.mk.injEq, and_true] at h1
  have := List.append_inj e (by omega)
  exact ⟨this.1, this.2, h1.2.symm⟩
abbrev PL := Nat × Nat × Nat
/-- k parts, one behind the other, from p on. -/
def kidsW (W : Nat → Nat × Int × List PL) : Nat → Nat → Nat × Int × List PL
  | 0, p => (p, 0, [])
  | k + 1, p => if (W p).2.1 = 0 then ((kidsW W k (W p).1).1, (kidsW W k (W p).1).2.1, (W p).2.2 ++ (kidsW W k (W p).1).2.2) else (0, (W p).2.1, (W p).2.2)
/-- The walk: the end, an error, the places that were told. -/
def walkS (S : List UInt8) : Nat → Nat → Nat → Nat × Int × List PL
  | 0, _, _ => (0, 60, [])
  | f + 1, d, p => if (frontS (S.drop p)).2.2 = 0 then
      (if (kidsW (walkS S f (d + 1)) (frontS (S.drop p)).2.1 (p + (frontS (S.drop p)).1)).2.1 = 0 then
        ((kidsW (walkS S f (d + 1)) (frontS (S.drop p)).2.1 (p + (frontS (S.drop p)).1)).1, 0, (kidsW (walkS S f (d + 1)) (frontS (S.drop p)).2.1 (p + (frontS (S.drop p)).1)).2.2 ++ [(p, (kidsW (walkS S f (d + 1)) (frontS (S.drop p)).2.1 (p + (frontS (S.drop p)).1)).1, d)])
      else (0, (kidsW (walkS S f (d + 1)) (frontS (S.drop p)).2.1 (p + (frontS (S.drop p)).1)).2.1, (kidsW (walkS S f (d + 1)) (frontS (S.drop p)).2.1 (p + (frontS (S.drop p)).1)).2.2))
    else (0, (frontS (S.drop p)).2.2, [])
theorem frontS_len {s : List UInt8} {n k : Nat} (h : frontS s = (n, k, 0)) : n ≤ s.length ∧ 1 ≤ n ∧ k ≤ 32 := by
  cases s with
  | nil => simp [frontS] at h
  | cons c r =>
    simp only [frontS] at h
    split at h
    · generalize hx : readTextS r 1024 = x at h
      obtain ⟨t, m, e⟩ := x
      have := readTextS_len hx
      simp only [Prod.mk.injEq] at h
      obtain ⟨rfl, rfl, _⟩ := h
      simp; omega
    · split at h
      · generalize hx : readTextS r 32 = x at h
        obtain ⟨t, m, e⟩ := x
        have := readTextS_len hx
        simp only at h
        split at h
        · simp at h
        · simp only [Prod.mk.injEq] at h
          obtain ⟨rfl, rfl, _⟩ := h
          simp; omega
      · split at h
        · generalize hx : readNumS r = x at h
          obtain ⟨v, m, e⟩ := x
          simp only at h
          split at h
          · simp at h
          · rename_i hnv
            simp only [Prod.mk.injEq] at h
            obtain ⟨g1, g2, g3⟩ := h
            subst g3
            have := readNumS_len hx
            have : ¬ 32 < v := fun hv => hnv ⟨rfl, hv⟩
            simp; omega
        · split at h
          · simp only [Prod.mk.injEq] at h; simp; omega
          · split at h
            · simp only [Prod.mk.injEq] at h; simp; omega
            · split at h
              · simp only [Prod.mk.injEq] at h; simp; omega
              · simp at h
theorem kidsW_len {W : Nat → Nat × Int × List PL} {N : Nat} (hW : ∀ p, p ≤ N → (W p).2.1 = 0 → p ≤ (W p).1 ∧ (W p).1 ≤ N) : ∀ k p, p ≤ N → (kidsW W k p).2.1 = 0 → p ≤ (kidsW W k p).1 ∧ (kidsW W k p).1 ≤ N
  | 0, p, hp, _ => ⟨Nat.le_refl _, hp⟩
  | k + 1, p, hp, h => by
    simp only [kidsW] at h ⊢
    by_cases h0 : (W p).2.1 = 0
    · rw [if_pos h0] at h ⊢
      obtain ⟨h1, h2⟩ := hW p hp h0
      obtain ⟨h3, h4⟩ := kidsW_len hW k _ h2 h
      exact ⟨Nat.le_trans h1 h3, h4⟩
    · rw [if_neg h0] at h; exact absurd h h0
theorem walkS_len (S : List UInt8) : ∀ f d p, p ≤ S.length → (walkS S f d p).2.1 = 0 → p ≤ (walkS S f d p).1 ∧ (walkS S f d p).1 ≤ S.length
  | 0, d, p, _, h => by simp [walkS] at h
  | f + 1, d, p, hp, h => by
    simp only [walkS] at h ⊢
    by_cases h0 : (frontS (S.drop p)).2.2 = 0
    · rw [if_pos h0] at h ⊢
      have hl := frontS_len (s := S.drop p) (n := (frontS (S.drop p)).1) (k := (frontS (S.drop p)).2.1) (by rw [← h0])
      rw [List.length_drop] at hl
      by_cases h1 : (kidsW (walkS S f (d + 1)) (frontS (S.drop p)).2.1 (p + (frontS (S.drop p)).1)).2.1 = 0
      · rw [if_pos h1]
        have := kidsW_len (W := walkS S f (d + 1)) (N := S.length) (fun q hq h => walkS_len S f (d + 1) q hq h) _ _ (by omega) h1
        exact ⟨by simp only; omega, this.2⟩
      · rw [if_neg h1] at h; exact absurd h h1
    · rw [if_neg h0] at h; exact absurd h h0
theorem kidsW_cnt {W : Nat → Nat × Int × List PL} {N : Nat} (hW : ∀ p, p ≤ N → ((W p).2.1 = 0 → p ≤ (W p).1 ∧ (W p).1 ≤ N ∧ (W p).2.2.length ≤ (W p).1 - p) ∧ (W p).2.2.length ≤ N - p) :
    ∀ k p, p ≤ N → ((kidsW W k p).2.1 = 0 → (kidsW W k p).2.2.length ≤ (kidsW W k p).1 - p) ∧ (kidsW W k p).2.2.length ≤ N - p
  | 0, p, hp => by simp [kidsW]
  | k + 1, p, hp => by
    simp only [kidsW]
    have h1 := hW p hp
    by_cases h0 : (W p).2.1 = 0
    · rw [if_pos h0]
      obtain ⟨g1, g2, g3⟩ := h1.1 h0
      have h2 := kidsW_cnt hW k (W p).1 g2
      have h3 := fun h => kidsW_len (fun q hq h => ⟨((hW q hq).1 h).1, ((hW q hq).1 h).2.1⟩) k (W p).1 g2 h
      simp only [List.length_append]
      refine ⟨fun h => ?_, by have := h2.2; omega⟩
      have := h3 h
      have := h2.1 h
      omega
    · rw [if_neg h0]
      exact ⟨fun h => absurd h h0, h1.2⟩
theorem walkS_cnt (S : List UInt8) : ∀ f d p, p ≤ S.length → ((walkS S f d p).2.1 = 0 → (walkS S f d p).2.2.length ≤ (walkS S f d p).1 - p) ∧ (walkS S f d p).2.2.length ≤ S.length - p
  | 0, d, p, hp => by simp [walkS]
  | f + 1, d, p, hp => by
    have ih : ∀ q, q ≤ S.length → ((walkS S f (d + 1) q).2.1 = 0 → q ≤ (walkS S f (d + 1) q).1 ∧ (walkS S f (d + 1) q).1 ≤ S.length ∧ (walkS S f (d + 1) q).2.2.length ≤ (walkS S f (d + 1) q).1 - q) ∧ (walkS S f (d + 1) q).2.2.length ≤ S.length - q := by
      intro q hq
      have h1 := walkS_cnt S f (d + 1) q hq
      exact ⟨fun h => ⟨(walkS_len S f (d + 1) q hq h).1, (walkS_len S f (d + 1) q hq h).2, h1.1 h⟩, h1.2⟩
    simp only [walkS]
    by_cases h0 : (frontS (S.drop p)).2.2 = 0
    · rw [if_pos h0]
      have hl := frontS_len (s := S.drop p) (n := (frontS (S.drop p)).1) (k := (frontS (S.drop p)).2.1) (by rw [← h0])
      rw [List.length_drop] at hl
      have hk := kidsW_cnt ih (frontS (S.drop p)).2.1 (p + (frontS (S.drop p)).1) (by omega)
      by_cases h1 : (kidsW (walkS S f (d + 1)) (frontS (S.drop p)).2.1 (p + (frontS (S.drop p)).1)).2.1 = 0
      · rw [if_pos h1]
        have h2 := kidsW_len (W := walkS S f (d + 1)) (N := S.length) (fun q hq h => walkS_len S f (d + 1) q hq h) _ _ (by omega) h1
        have h3 := hk.1 h1
        have h4 := hk.2
        simp only [List.length_append, List.length_cons, List.length_nil]
        exact ⟨fun _ => by omega, by omega⟩
      · rw [if_neg h1]
        have h4 := hk.2
        exact ⟨fun h => absurd h h1, by simp only; omega⟩
    · rw [if_neg h0]; simp
/-- What 'walk' does. -/
def wkE (x : Nat × Int × List PL) : Ending := if x.2.1 = 0 then .returned (.int .i64 x.1) else .panicked (wrongV x.2.1)
theorem tWalk_cps (S : List UInt8) (hS : S.length ≤ maxLen) (g : Nat) (cap : Array Value) (hg : FOk Tryz.prog g) (Tell : List PL → World → Prop) (hTM : ∀ l w w', Tell l w → Mod [] w w' → Tell l w')
    (Lt : List PL) (hT : ∀ (l : List PL) (a b d : Nat) (w : World) (R : Ending → World → Prop), (∃ r, l ++ (a, b, d) :: r = Lt) → a ≤ b → b ≤ S.length → d ≤ 16 → Tell l w → (∀ w', Tell (l ++ [(a, b, d)]) w' → R (.returned (.tuple #[])) w') → Calls Tryz.prog g (([.int .i64 a, .int .i64 b, .int .i64 d] : List Value) ++ cap.toList).toArray w R) :
    ∀ (f d p : Nat) (l0 : List PL) (w : World) (R : Ending → World → Prop), d + f = 17 → p ≤ S.length → (∃ r, l0 ++ (walkS S f d p).2.2 ++ r = Lt) → Tell l0 w → (∀ w', Tell (l0 ++ (walkS S f d p).2.2) w' → R (wkE (walkS S f d p)) w') →
      Calls Tryz.prog 133 #[.string ⟨S.toArray⟩, .int .i64 p, .int .i64 d, .func (.func g) #[] cap] w R := by
  have hS' := hS
  unfold maxLen at hS
  intro f
  induction f with
  | zero =>
    intro d p l0 w R hd hp hL hl hR
    have hd : d = 17 := by omega
    subst hd
    refine calls_go 4000 okT Tryz.func133 rfl (rs := [.tmp 8]) rfl Tryz.ntmps133 (args := [.string ⟨S.toArray⟩, .int .i64 p, .int .i64 ((17 : Nat) : Int), .func (.func g) #[] cap]) ?_
    simp (maxSteps := 1000000) (disch := first | omega | (simp only [sizeAlloc, sizeDrew, sizeSet, sizePut] <;> omega) | fail) only [GS, TT_eq, TTl, Nat.reduceAdd, Nat.reduceMul, Nat.reduceSub, Nat.reduceDiv, Nat.reduceMod, Nat.reducePow, Nat.reduceEqDiff, ↓reduceIte, reduceCtorEq, Int.reduceToNat, Int.reduceAdd, Int.reduceSub, Int.reduceMul]
    have hR : R (.panicked (wrongV 60)) w := hR w (by simpa [walkS] using hl)
    refine ⟨fok150, must_cps 60 _ _ (fun h => absurd h (by decide)) fun _ => .inr ⟨_, rfl, hold_ex okT (rs := [.tmp 8]) rfl ?_⟩⟩
    simp (maxSteps := 1000000) (disch := first | omega | (simp only [sizeAlloc, sizeDrew, sizeSet, sizePut] <;> omega) | fail) only [GS, TT_eq, TTl, Nat.reduceAdd, Nat.reduceMul, Nat.reduceSub, Nat.reduceDiv, Nat.reduceMod, Nat.reducePow, Nat.reduceEqDiff, ↓reduceIte, reduceCtorEq, Int.reduceToNat, Int.reduceAdd, Int.reduceSub, Int.reduceMul]
    exact hR
  | succ f ih =>
    intro d p l0 w R hd hp hL hl hR
    simp only [walkS] at hR hL
    refine calls_go 4000 okT Tryz.func133 rfl (rs := [.tmp 8]) rfl Tryz.ntmps133 (args := [.string ⟨S.toArray⟩, .int .i64 p, .int .i64 d, .func (.func g) #[] cap]) ?_
    simp (maxSteps := 1000000) (disch := first | omega | (simp only [sizeAlloc, sizeDrew, sizeSet, sizePut] <;> omega) | fail) only [GS, TT_eq, TTl, Nat.reduceAdd, Nat.reduceMul, Nat.reduceSub, Nat.reduceDiv, Nat.reduceMod, Nat.reducePow, Nat.reduceEqDiff, ↓reduceIte, reduceCtorEq, Int.reduceToNat, Int.reduceAdd, Int.reduceSub, Int.reduceMul]
    have hdl : (S.drop p).length ≤ maxLen := by rw [List.length_drop]; unfold maxLen; omega
    refine ⟨fok157, tFront_cps (S.drop p) hdl _ _ fun w1 hM => ?_⟩
    generalize hx : frontS (S.drop p) = x at hR hL ⊢
    obtain ⟨n, k, e⟩ := x
    simp only at hR hL
    unfold frE
    have hl1 := hTM _ _ _ hl hM
    by_cases he : e = 0
    · subst he
      have hfl := frontS_len hx
      rw [List.length_drop] at hfl
      simp only [if_true] at hR hL ⊢
      have hL2 : ∃ r, l0 ++ (kidsW (walkS S f (d + 1)) k (p + n)).2.2 ++ r = Lt := by
        obtain ⟨r, hr⟩ := hL
        split at hr
        · exact ⟨(p, _, d) :: r, by rw [← hr]; simp only [List.append_assoc, List.cons_append, List.nil_append]; rfl⟩
        · exact ⟨r, hr⟩
      refine .inl ⟨_, rfl, hold_ops okT (rs := [.tmp 8]) rfl ?_⟩
      have e1 : (p : Int) + (n : Int) = ((p + n : Nat) : Int) := by omega
      have e2 : (d : Int) + 1 = ((d + 1 : Nat) : Int) := by omega
      simp (maxSteps := 1000000) (disch := first | omega | (simp only [sizeAlloc, sizeDrew, sizeSet, sizePut] <;> omega) | fail) only [GS, TT_eq, TTl, Nat.reduceAdd, Nat.reduceMul, Nat.reduceSub, Nat.reduceDiv, Nat.reduceMod, Nat.reducePow, Nat.reduceEqDiff, ↓reduceIte, reduceCtorEq, Int.reduceToNat, Int.reduceAdd, Int.reduceSub, Int.reduceMul, e1]
      refine hold_loop okT (rs := [.tmp 8]) rfl [11, 26] [27, 28, 29, 30, 31, 32, 33, 34] (fun vs w' => ∃ (i q : Nat) (l : List PL), i ≤ k ∧ q ≤ S.length ∧ p ≤ q ∧ vs = [.int .i64 q, .int .i64 i] ∧ Tell (l0 ++ l) w' ∧
          kidsW (walkS S f (d + 1)) k (p + n) = ((kidsW (walkS S f (d + 1)) (k - i) q).1, (kidsW (walkS S f (d + 1)) (k - i) q).2.1, l ++ (kidsW (walkS S f (d + 1)) (k - i) q).2.2)) (fun vs _ => match vs with | [_, .int _ i] => k - i.toNat | _ => 0) (by kernel_rfl)
        ⟨0, p + n, [], by omega, by omega, by omega, rfl, by simpa using hl1, rfl⟩ ?_
      rintro vs w2 J ⟨i, q, l, hi, hq, hpq, rfl, hl2, hk⟩
      by_cases hlt : i < k
      · obtain ⟨j, hj⟩ : ∃ j, k - i = j + 1 := ⟨k - i - 1, by omega⟩
        have hj2 : k - (i + 1) = j := by omega
        rw [hj] at hk
        simp only [kidsW] at hk
        have hwl := walkS_len S f (d + 1) q hq
        have hL3 : ∃ r, l0 ++ l ++ (walkS S f (d + 1) q).2.2 ++ r = Lt := by
          obtain ⟨r, hr⟩ := hL2
          rw [hk] at hr
          split at hr
          · exact ⟨_, by rw [← hr]; simp only [List.append_assoc]; rfl⟩
          · exact ⟨_, by rw [← hr]; simp only [List.append_assoc]; rfl⟩
        simp (maxSteps := 1000000) (disch := first | omega | (simp only [sizeAlloc, sizeDrew, sizeSet, sizePut] <;> omega) | fail) only [GS, TT_eq, TTl, Nat.reduceAdd, Nat.reduceMul, Nat.reduceSub, Nat.reduceDiv, Nat.reduceMod, Nat.reducePow, Nat.reduceEqDiff, ↓reduceIte, reduceCtorEq, Int.reduceToNat, Int.reduceAdd, Int.reduceSub, Int.reduceMul, e2]
        refine ⟨fok133, ih (d + 1) q (l0 ++ l) _ _ (by omega) hq hL3 hl2 fun w3 hl3 => ?_⟩
        unfold wkE
        by_cases hz : (walkS S f (d + 1) q).2.1 = 0
        · rw [if_pos hz]
          rw [if_pos hz] at hk
          have hwl := hwl hz
          refine .inl ⟨_, rfl, hold_ops okT (rs := [.tmp 8]) rfl ?_⟩
          simp (maxSteps := 1000000) (disch := first | omega | (simp only [sizeAlloc, sizeDrew, sizeSet, sizePut] <;> omega) | fail) only [GS, TT_eq, TTl, Nat.reduceAdd, Nat.reduceMul, Nat.reduceSub, Nat.reduceDiv, Nat.reduceMod, Nat.reducePow, Nat.reduceEqDiff, ↓reduceIte, reduceCtorEq, Int.reduceToNat, Int.reduceAdd, Int.reduceSub, Int.reduceMul]
          refine ⟨⟨i + 1, (walkS S f (d + 1) q).1, l ++ (walkS S f (d + 1) q).2.2, by omega, by omega, by omega, rfl, ?_, ?_⟩, by omega⟩
          · rw [← List.append_assoc]; exact hl3
          · rw [hj2, hk, List.append_assoc]
        · rw [if_neg hz]
          rw [if_neg hz] at hk
          refine .inr ⟨_, rfl, hold_ex okT (rs := [.tmp 8]) rfl ?_⟩
          simp (maxSteps := 1000000) (disch := first | omega | (simp only [sizeAlloc, sizeDrew, sizeSet, sizePut] <;> omega) | fail) only [GS, TT_eq, TTl, Nat.reduceAdd, Nat.reduceMul, Nat.reduceSub, Nat.reduceDiv, Nat.reduceMod, Nat.reducePow, Nat.reduceEqDiff, ↓reduceIte, reduceCtorEq, Int.reduceToNat, Int.reduceAdd, Int.reduceSub, Int.reduceMul]
          rw [hk] at hR
          simp only [if_neg hz] at hR
          have := hR w3 (by rw [← List.append_assoc]; exact hl3)
          unfold wkE at this
          simp only [if_neg hz] at this
          exact this
      · have e : i = k := by omega
        subst e
        rw [Nat.sub_self] at hk
        simp only [kidsW, List.append_nil] at hk
        simp (maxSteps := 1000000) (disch := first | omega | (simp only [sizeAlloc, sizeDrew, sizeSet, sizePut] <;> omega) | fail) only [GS, TT_eq, TTl, Nat.reduceAdd, Nat.reduceMul, Nat.reduceSub, Nat.reduceDiv, Nat.reduceMod, Nat.reducePow, Nat.reduceEqDiff, ↓reduceIte, reduceCtorEq, Int.reduceToNat, Int.reduceAdd, Int.reduceSub, Int.reduceMul]
        have hL4 : ∃ r, l0 ++ l ++ (p, q, d) :: r = Lt := by
          obtain ⟨r, hr⟩ := hL
          rw [hk] at hr
          simp only [if_true] at hr
          exact ⟨r, by rw [← hr]; simp only [List.append_assoc, List.cons_append, List.nil_append]⟩
        refine ⟨hg, hT (l0 ++ l) p q d _ _ hL4 hpq hq (by omega) hl2 fun w3 hl3 => .inl ⟨_, rfl, hold_ops okT (rs := [.tmp 8]) rfl ?_⟩⟩
        simp (maxSteps := 1000000) (disch := first | omega | (simp only [sizeAlloc, sizeDrew, sizeSet, sizePut] <;> omega) | fail) only [GS, TT_eq, TTl, Nat.reduceAdd, Nat.reduceMul, Nat.reduceSub, Nat.reduceDiv, Nat.reduceMod, Nat.reducePow, Nat.reduceEqDiff, ↓reduceIte, reduceCtorEq, Int.reduceToNat, Int.reduceAdd, Int.reduceSub, Int.reduceMul]
        rw [hk] at hR
        simp only [if_true] at hR
        have := hR w3 (by rw [← List.append_assoc]; exact hl3)
        unfold wkE at this
        simp only [if_true] at this
        exact this
    · simp only [he, if_false] at hR ⊢
      refine .inr ⟨_, rfl, hold_ex okT (rs := [.tmp 8]) rfl ?_⟩
      simp (maxSteps := 1000000) (disch := first | omega | (simp only [sizeAlloc, sizeDrew, sizeSet, sizePut] <;> omega) | fail) only [GS, TT_eq, TTl, Nat.reduceAdd, Nat.reduceMul, Nat.reduceSub, Nat.reduceDiv, Nat.reduceMod, Nat.reducePow, Nat.reduceEqDiff, ↓reduceIte, reduceCtorEq, Int.reduceToNat, Int.reduceAdd, Int.reduceSub, Int.reduceMul]
      have := hR w1 (by simpa using hl1)
      unfold wkE at this
      simp only [he, if_false] at this
      exact this
/-- What is read: how many bytes, an error. -/
def readS (S : List UInt8) : Nat × Int :=
  if (walkS S 16 1 0).2.1 = 0 then (if 16384 < (walkS S 16 1 0).1 then (0, 5) else ((walkS S 16 1 0).1, 0)) else (0, (walkS S 16 1 0).2.1)
def checkS (S : List UInt8) : Int := if (readS S).2 = 0 then (if (readS S).1 = S.length then 0 else 7) else (readS S).2
def rd2V (x : Nat × Int) : Value := .tuple #[.int .i64 x.1, .int .i64 x.2]
theorem readS_len (S : List UInt8) : (readS S).1 ≤ S.length := by
  have := walkS_len S 16 1 0 (by omega)
  unfold readS
  by_cases h : (walkS S 16 1 0).2.1 = 0
  · rw [if_pos h]; have := this h
    by_cases h2 : 16384 < (walkS S 16 1 0).1
    · rw [if_pos h2]; simp
    · rw [if_neg h2]; exact this.2
  · rw [if_neg h]; simp
theorem caught_cps (e : Int) (w : World) (R : Ending → World → Prop) (hR : ∀ w', Mod [] w w' → R (.returned (.int .i64 e)) w') :
    Calls Tryz.prog 148 #[.iface 252 (.agg #[.int .i64 e])] w R := by
  refine calls_go 4000 okT Tryz.func148 rfl (rs := [.tmp 2]) rfl Tryz.ntmps148 (args := [.iface 252 (.agg #[.int .i64 e])]) ?_
  simp (maxSteps := 1000000) (disch := first | omega | (simp only [sizeAlloc, sizeDrew, sizeSet, sizePut] <;> omega) | fail) only [GS, TT_eq, TTl, Nat.reduceAdd, Nat.reduceMul, Nat.reduceSub, Nat.reduceDiv, Nat.reduceMod, Nat.reducePow, Nat.reduceEqDiff, ↓reduceIte, reduceCtorEq, Int.reduceToNat, Int.reduceAdd, Int.reduceSub, Int.reduceMul]
  exact hR _ (((Mod.refl _ _).alloc _).set (p := ⟨w.heap.size, 0, none⟩) (.inr (Nat.le_refl _)) _)
theorem readD_ret (p q : Value) (w : World) (R : Ending → FrameMode → World → Prop) (hR : R (.returned (.tuple #[])) .returning w) :
    CallsR Tryz.prog 147 #[p, q] .returning w R := by
  refine callsDIn_of_wpSIn Tryz.func147 rfl (by trivial) fun c₀ cs hu => ?_
  apply wpSIn_seq
  apply wpSIn_region
  simp [wpOpsSIn, go_sem, recoverD, hu, Tryz.ntmps147, Exit.thenS]
  have e : c₀ = { c₀ with mode := .returning } := by cases c₀; simp only at hu; subst hu; rfl
  rw [e]
  refine wpS_go (fs := [p, q, .nilIface, .nilIface, undef, undef, undef, undef]) okT (rs := []) rfl ?_
  simp (maxSteps := 1000000) (disch := first | omega | (simp only [sizeAlloc, sizeDrew, sizeSet, sizePut] <;> omega) | fail) only [GS, TT_eq, TTl, Nat.reduceAdd, Nat.reduceMul, Nat.reduceSub, Nat.reduceDiv, Nat.reduceMod, Nat.reducePow, Nat.reduceEqDiff, ↓reduceIte, reduceCtorEq, Int.reduceToNat, Int.reduceAdd, Int.reduceSub, Int.reduceMul]
  unfold recEnd
  simp (maxSteps := 1000000) (disch := first | omega | (simp only [sizeAlloc, sizeDrew, sizeSet, sizePut] <;> omega) | fail) only [GS, TT_eq, TTl, Nat.reduceAdd, Nat.reduceMul, Nat.reduceSub, Nat.reduceDiv, Nat.reduceMod, Nat.reducePow, Nat.reduceEqDiff, ↓reduceIte, reduceCtorEq, Int.reduceToNat, Int.reduceAdd, Int.reduceSub, Int.reduceMul]
  exact hR
/-- What was thrown, once caught. -/
def doneV (e : Int) : List PanicEntry := [{ v := .iface 252 (.agg #[.int .i64 e]), recovered := true }]
theorem readD_pan (a b : Nat) (e : Int) (x y : Value) (ta tb : Nat) (w : World) (hab : a ≠ b) (hA : w.heap[a]? = some (.cells #[x] ta (0, 0))) (hB : w.heap[b]? = some (.cells #[y] tb (0, 0))) (R : Ending → FrameMode → World → Prop)
    (hR : ∀ w', w'.heap[a]? = some (.cells #[.int .i64 0] ta (0, 0)) → w'.heap[b]? = some (.cells #[.int .i64 e] tb (0, 0)) → Mod [a, b] w w' → R (.returned (.tuple #[])) (.panicking (doneV e)) w') :
    CallsR Tryz.prog 147 #[.pointer (some ⟨a, 0, none⟩), .pointer (some ⟨b, 0, none⟩)] (.panicking (wrongV e)) w R := by
  refine callsDIn_of_wpSIn Tryz.func147 rfl (by trivial) fun c₀ cs hu => ?_
  apply wpSIn_seq
  apply wpSIn_region
  unfold wrongV at hu
  simp [wpOpsSIn, go_sem, recoverD, hu, Tryz.ntmps147, Exit.thenS]
  refine wpS_go (u := .panicking [{ v := .iface 252 (.agg #[.int .i64 e]), recovered := true }]) (fs := [.pointer (some ⟨a, 0, none⟩), .pointer (some ⟨b, 0, none⟩), .iface 252 (.agg #[.int .i64 e]), .iface 252 (.agg #[.int .i64 e]), undef, undef, undef, undef]) okT (rs := []) rfl ?_
  simp (maxSteps := 1000000) (disch := first | omega | (simp only [sizeAlloc, sizeDrew, sizeSet, sizePut] <;> omega) | fail) only [GS, TT_eq, TTl, Nat.reduceAdd, Nat.reduceMul, Nat.reduceSub, Nat.reduceDiv, Nat.reduceMod, Nat.reducePow, Nat.reduceEqDiff, ↓reduceIte, reduceCtorEq, Int.reduceToNat, Int.reduceAdd, Int.reduceSub, Int.reduceMul]
  refine ⟨fok148, caught_cps e _ _ fun w1 hM => .inl ⟨_, rfl, hold_ops (fn := fnR) okT (rs := []) rfl ?_⟩⟩
  have hA1 := hM.get hA (by simp)
  have hB1 := hM.get hB (by simp)
  have hca : w1.cell? ⟨a, 0, none⟩ = some x := by rw [cellOf hA1]; rfl
  have hcb : w1.cell? ⟨b, 0, none⟩ = some y := by rw [cellOf hB1]; rfl
  have hfa := frozenOf (o := 0) hA1
  have hfb := frozenOf (o := 0) hB1
  simp (maxSteps := 1000000) (disch := first | omega | (simp only [sizeAlloc, sizeDrew, sizeSet, sizePut] <;> omega) | fail) only [GS, TT_eq, TTl, Nat.reduceAdd, Nat.reduceMul, Nat.reduceSub, Nat.reduceDiv, Nat.reduceMod, Nat.reducePow, Nat.reduceEqDiff, ↓reduceIte, reduceCtorEq, Int.reduceToNat, Int.reduceAdd, Int.reduceSub, Int.reduceMul, hca, hcb, hfa, hfb]
  unfold recEnd
  simp (maxSteps := 1000000) (disch := first | omega | (simp only [sizeAlloc, sizeDrew, sizeSet, sizePut] <;> omega) | fail) only [GS, TT_eq, TTl, Nat.reduceAdd, Nat.reduceMul, Nat.reduceSub, Nat.reduceDiv, Nat.reduceMod, Nat.reducePow, Nat.reduceEqDiff, ↓reduceIte, reduceCtorEq, Int.reduceToNat, Int.reduceAdd, Int.reduceSub, Int.reduceMul]
  exact hR _ (heapSetNe (heapSet hA1) hab) (heapSet (heapSetNe hB1 hab.symm)) (((hM.mono (by simp)).set (p := ⟨a, 0, none⟩) (.inl (by simp)) _).set (p := ⟨b, 0, none⟩) (.inl (by simp)) _)
theorem readT_cps (x y z : Value) (w : World) (R : Ending → World → Prop) (hR : R (.returned (.tuple #[])) w) : Calls Tryz.prog 149 #[x, y, z] w R := by
  refine calls_go 4000 okT Tryz.func149 rfl (rs := []) rfl Tryz.ntmps149 (args := [x, y, z]) ?_
  simp (maxSteps := 1000000) (disch := first | omega | (simp only [sizeAlloc, sizeDrew, sizeSet, sizePut] <;> omega) | fail) only [GS, TT_eq, TTl, Nat.reduceAdd, Nat.reduceMul, Nat.reduceSub, Nat.reduceDiv, Nat.reduceMod, Nat.reducePow, Nat.reduceEqDiff, ↓reduceIte, reduceCtorEq, Int.reduceToNat, Int.reduceAdd, Int.reduceSub, Int.reduceMul]
  exact hR
theorem tRead_cps (S : List UInt8) (hS : S.length ≤ maxLen) (w : World) (R : Ending → World → Prop) (hR : ∀ w', Mod [] w w' → R (.returned (rd2V (readS S))) w') :
    Calls Tryz.prog 107 #[.string ⟨S.toArray⟩] w R := by
  have hS' := hS
  unfold maxLen at hS
  have hl := walkS_len S 16 1 0 (by omega)
  unfold readS at hR
  refine calls_go 4000 okT Tryz.func107 rfl (rs := [.cell 2 3, .cell 3 29]) rfl Tryz.ntmps107 (args := [.string ⟨S.toArray⟩]) ?_
  simp (maxSteps := 1000000) (disch := first | omega | (simp only [sizeAlloc, sizeDrew, sizeSet, sizePut] <;> omega) | fail) only [GS, TT_eq, TTl, Nat.reduceAdd, Nat.reduceMul, Nat.reduceSub, Nat.reduceDiv, Nat.reduceMod, Nat.reducePow, Nat.reduceEqDiff, ↓reduceIte, reduceCtorEq, Int.reduceToNat, Int.reduceAdd, Int.reduceSub, Int.reduceMul]
  refine hold_defer rfl rfl (hold_ops okT (rs := [.cell 2 3, .cell 3 29]) rfl ?_)
  simp (maxSteps := 1000000) (disch := first | omega | (simp only [sizeAlloc, sizeDrew, sizeSet, sizePut] <;> omega) | fail) only [GS, TT_eq, TTl, Nat.reduceAdd, Nat.reduceMul, Nat.reduceSub, Nat.reduceDiv, Nat.reduceMod, Nat.reducePow, Nat.reduceEqDiff, ↓reduceIte, reduceCtorEq, Int.reduceToNat, Int.reduceAdd, Int.reduceSub, Int.reduceMul]
  refine ⟨fok133, tWalk_cps S hS' 149 #[] fok149 (fun _ w' => Mod [] ((w.alloc (.cells #[.int .i64 0] 3)).alloc (.cells #[.int .i64 0] 29)) w') (fun _ _ _ h hM => h.trans hM (by simp)) (walkS S 16 1 0).2.2 (fun l a b d w' R' _ _ _ _ hl hR' => readT_cps _ _ _ _ _ (hR' _ hl)) 16 1 0 [] _ _ (by omega) (by omega) ⟨[], by simp⟩ (Mod.refl _ _) fun w1 hM => ?_⟩
  generalize walkS S 16 1 0 = X at hR hl ⊢
  obtain ⟨m, e, l⟩ := X
  simp only at hR hl
  unfold wkE
  simp only
  have hA1 : w1.heap[w.heap.size]? = some (.cells #[.int .i64 0] 3 (0, 0)) := hM.get (by (simp only [heapA, sizeAlloc]; repeat (first | rfl | rw [if_neg (by omega)] | rw [if_pos (by omega)]))) (by simp)
  have hB1 : w1.heap[w.heap.size + 1]? = some (.cells #[.int .i64 0] 29 (0, 0)) := hM.get (by (simp only [heapA, sizeAlloc]; repeat (first | rfl | rw [if_neg (by omega)] | rw [if_pos (by omega)]))) (by simp)
  have hM1 : Mod [] w w1 := (((Mod.refl [] w).alloc _).alloc _).trans hM (by simp)
  have hca : w1.cell? ⟨w.heap.size, 0, none⟩ = some (.int .i64 0) := by rw [cellOf hA1]; rfl
  have hcb : w1.cell? ⟨w.heap.size + 1, 0, none⟩ = some (.int .i64 0) := by rw [cellOf hB1]; rfl
  have hfa := frozenOf (o := 0) hA1
  have hfb := frozenOf (o := 0) hB1
  have hne : w.heap.size ≠ w.heap.size + 1 := by omega
  by_cases he : e = 0
  · subst he
    have hl := hl rfl
    rw [if_pos rfl] at hR ⊢
    refine .inl ⟨_, rfl, hold_ops okT (rs := [.cell 2 3, .cell 3 29]) rfl ?_⟩
    by_cases h : 16384 < m
    · rw [if_pos h] at hR
      simp (maxSteps := 1000000) (disch := first | omega | (simp only [sizeAlloc, sizeDrew, sizeSet, sizePut] <;> omega) | fail) only [GS, TT_eq, TTl, Nat.reduceAdd, Nat.reduceMul, Nat.reduceSub, Nat.reduceDiv, Nat.reduceMod, Nat.reducePow, Nat.reduceEqDiff, ↓reduceIte, reduceCtorEq, Int.reduceToNat, Int.reduceAdd, Int.reduceSub, Int.reduceMul, hca, hcb, hfa, hfb]
      refine ⟨fok150, must_cps 5 _ _ (fun h => absurd h (by decide)) fun _ => .inr ⟨_, rfl, hold_ex okT (rs := [.cell 2 3, .cell 3 29]) rfl ?_⟩⟩
      simp (maxSteps := 1000000) (disch := first | omega | (simp only [sizeAlloc, sizeDrew, sizeSet, sizePut] <;> omega) | fail) only [GS, TT_eq, TTl, Nat.reduceAdd, Nat.reduceMul, Nat.reduceSub, Nat.reduceDiv, Nat.reduceMod, Nat.reducePow, Nat.reduceEqDiff, ↓reduceIte, reduceCtorEq, Int.reduceToNat, Int.reduceAdd, Int.reduceSub, Int.reduceMul]
      refine hold_leave (rs := [.cell 2 3, .cell 3 29]) okT rfl fok147 (.inr (.inr ⟨_, rfl⟩)) (readD_pan w.heap.size (w.heap.size + 1) 5 _ _ _ _ _ hne (heapSet hA1) (heapSetNe hB1 hne.symm) _ fun w2 ha hb hM2 => .inl ⟨_, rfl, ?_⟩)
      have hc1 : w2.cell? ⟨w.heap.size, 0, none⟩ = some (.int .i64 0) := by rw [cellOf ha]; rfl
      have hc2 : w2.cell? ⟨w.heap.size + 1, 0, none⟩ = some (.int .i64 5) := by rw [cellOf hb]; rfl
      show lastW TT [.cell 2 3, .cell 3 29] R _ .returning w2
      simp (maxSteps := 1000000) (disch := first | omega | (simp only [sizeAlloc, sizeDrew, sizeSet, sizePut] <;> omega) | fail) only [GS, TT_eq, TTl, Nat.reduceAdd, Nat.reduceMul, Nat.reduceSub, Nat.reduceDiv, Nat.reduceMod, Nat.reducePow, Nat.reduceEqDiff, ↓reduceIte, reduceCtorEq, Int.reduceToNat, Int.reduceAdd, Int.reduceSub, Int.reduceMul, lastW_ret]
      show ∃ v, w2.cell? ⟨w.heap.size, 0, none⟩ = some v ∧ ∃ u, w2.cell? ⟨w.heap.size + 1, 0, none⟩ = some u ∧ R (.returned (.tuple #[v, u])) w2
      exact ⟨_, hc1, _, hc2, hR _ ((hM1.set (p := ⟨w.heap.size, 0, none⟩) (.inr (Nat.le_refl _)) _).trans hM2 (by intro x hx; simp at hx; right; omega))⟩
    · rw [if_neg h] at hR
      simp (maxSteps := 1000000) (disch := first | omega | (simp only [sizeAlloc, sizeDrew, sizeSet, sizePut] <;> omega) | fail) only [GS, TT_eq, TTl, Nat.reduceAdd, Nat.reduceMul, Nat.reduceSub, Nat.reduceDiv, Nat.reduceMod, Nat.reducePow, Nat.reduceEqDiff, ↓reduceIte, reduceCtorEq, Int.reduceToNat, Int.reduceAdd, Int.reduceSub, Int.reduceMul, hca, hcb, hfa, hfb]
      refine hold_leave (rs := [.cell 2 3, .cell 3 29]) okT rfl fok147 (.inr (.inl rfl)) (readD_ret _ _ _ _ (.inl ⟨_, rfl, ?_⟩))
      show lastW TT [.cell 2 3, .cell 3 29] R _ .returning _
      have hs1 := heapSet (v := .int .i64 0) (o := 0) (heapSetNe (j := 0) (u := .int .i64 m) (heapSetNe (j := 0) (u := .int .i64 m) hB1 hne.symm) hne.symm)
      have hs2 := heapSetNe (j := 0) (u := .int .i64 0) (heapSet (v := .int .i64 m) (o := 0) (heapSet (v := .int .i64 m) (o := 0) hA1)) hne
      have hMM := (((hM1.set (p := ⟨w.heap.size, 0, none⟩) (.inr (Nat.le_refl _)) (.int .i64 m)).set (p := ⟨w.heap.size, 0, none⟩) (.inr (Nat.le_refl _)) (.int .i64 m)).set (p := ⟨w.heap.size + 1, 0, none⟩) (.inr (Nat.le_succ _)) (.int .i64 0))
      generalize ((w1.setCell ⟨w.heap.size, 0, none⟩ (.int .i64 m)).setCell ⟨w.heap.size, 0, none⟩ (.int .i64 m)).setCell ⟨w.heap.size + 1, 0, none⟩ (.int .i64 0) = w2 at hs1 hs2 hMM ⊢
      have hc1 : w2.cell? ⟨w.heap.size, 0, none⟩ = some (.int .i64 m) := by rw [cellOf hs2]; rfl
      have hc2 : w2.cell? ⟨w.heap.size + 1, 0, none⟩ = some (.int .i64 0) := by rw [cellOf hs1]; rfl
      simp (maxSteps := 1000000) (disch := first | omega | (simp only [sizeAlloc, sizeDrew, sizeSet, sizePut] <;> omega) | fail) only [GS, TT_eq, TTl, Nat.reduceAdd, Nat.reduceMul, Nat.reduceSub, Nat.reduceDiv, Nat.reduceMod, Nat.reducePow, Nat.reduceEqDiff, ↓reduceIte, reduceCtorEq, Int.reduceToNat, Int.reduceAdd, Int.reduceSub, Int.reduceMul, lastW_ret]
      show ∃ v, w2.cell? ⟨w.heap.size, 0, none⟩ = some v ∧ ∃ u, w2.cell? ⟨w.heap.size + 1, 0, none⟩ = some u ∧ R (.returned (.tuple #[v, u])) w2
      exact ⟨_, hc1, _, hc2, hR _ hMM⟩
  · rw [if_neg he] at hR ⊢
    refine .inr ⟨_, rfl, hold_ex okT (rs := [.cell 2 3, .cell 3 29]) rfl ?_⟩
    simp (maxSteps := 1000000) (disch := first | omega | (simp only [sizeAlloc, sizeDrew, sizeSet, sizePut] <;> omega) | fail) only [GS, TT_eq, TTl, Nat.reduceAdd, Nat.reduceMul, Nat.reduceSub, Nat.reduceDiv, Nat.reduceMod, Nat.reducePow, Nat.reduceEqDiff, ↓reduceIte, reduceCtorEq, Int.reduceToNat, Int.reduceAdd, Int.reduceSub, Int.reduceMul]
    refine hold_leave (rs := [.cell 2 3, .cell 3 29]) okT rfl fok147 (.inr (.inr ⟨_, rfl⟩)) (readD_pan w.heap.size (w.heap.size + 1) e _ _ _ _ _ hne hA1 hB1 _ fun w2 ha hb hM2 => .inl ⟨_, rfl, ?_⟩)
    have hc1 : w2.cell? ⟨w.heap.size, 0, none⟩ = some (.int .i64 0) := by rw [cellOf ha]; rfl
    have hc2 : w2.cell? ⟨w.heap.size + 1, 0, none⟩ = some (.int .i64 e) := by rw [cellOf hb]; rfl
    show lastW TT [.cell 2 3, .cell 3 29] R _ .returning w2
    simp (maxSteps := 1000000) (disch := first | omega | (simp only [sizeAlloc, sizeDrew, sizeSet, sizePut] <;> omega) | fail) only [GS, TT_eq, TTl, Nat.reduceAdd, Nat.reduceMul, Nat.reduceSub, Nat.reduceDiv, Nat.reduceMod, Nat.reducePow, Nat.reduceEqDiff, ↓reduceIte, reduceCtorEq, Int.reduceToNat, Int.reduceAdd, Int.reduceSub, Int.reduceMul, lastW_ret]
    show ∃ v, w2.cell? ⟨w.heap.size, 0, none⟩ = some v ∧ ∃ u, w2.cell? ⟨w.heap.size + 1, 0, none⟩ = some u ∧ R (.returned (.tuple #[v, u])) w2
    exact ⟨_, hc1, _, hc2, hR _ (hM1.trans hM2 (by intro x hx; simp at hx; right; omega))⟩
end Go.Proofs.YtdflchgfhmjhbaaGreatDoor
