/-
  KnowSeals (walk).
-/
import Derived.Test.YtgopgonkchlkfaaKsOrd2
import Derived.Test.YtgopgonkchlkfaaKsSls1
import Derived.Test.YtgopgonkchlkfaaKsHas1
set_option linter.unusedSimpArgs false
set_option linter.unusedVariables false
set_option maxRecDepth 20000
namespace Go.Proofs.Ytgopgonkchlkfaa
open Go Go.Wk Go.RowKit
attribute [local irreducible] go Hold
open Go.Lib
def standsB (xs : List Tm) (t : Tm) : Bool := xs.any fun s => hasS s t
set_option maxHeartbeats 2000000 in
theorem stands_cps (sa : Value) (xs : List (List UInt8)) (t : Tm) (ht : t.length ≤ maxLen) (w : World) (R : Ending → World → Prop) (hx : xs.length ≤ 9223372036854775807) (hxs : ∀ s ∈ xs, s.length ≤ maxLen) (ha : Rd w 1 sa xs.length (xs.map strV))
    (hR : ∀ w', Mod [] w w' → R (.returned (.bool (standsB xs t))) w') : Calls Try.prog 47 #[sa, .string ⟨t.toArray⟩] w R := by
  obtain ⟨a, ca, rfl⟩ := ha.slice
  refine calls_go 4000 okT Try.func47 rfl (rs := [.tmp 4]) rfl Try.ntmps47 (args := [.slice a xs.length ca, .string ⟨t.toArray⟩]) ?_
  simp (maxSteps := 1000000) (disch := first | omega | (simp only [sizeAlloc, sizeDrew, sizeSet, sizePut] <;> omega) | fail) only [GS, TT_eq, TTl, Nat.reduceAdd, Nat.reduceMul, Nat.reduceSub, Nat.reduceDiv, Nat.reduceMod, Nat.reducePow, Nat.reduceEqDiff, ↓reduceIte, reduceCtorEq, Int.reduceToNat, Int.reduceAdd, Int.reduceSub, Int.reduceMul]
  refine hold_loop okT (rs := [.tmp 4]) rfl [5] [4, 6, 7, 8, 9, 10, 11, 12, 13, 14, 15, 16, 17] (fun vs w' => ∃ k : Nat, k ≤ xs.length ∧ vs = [.int .i64 k] ∧ Mod [] w w' ∧ ∀ s ∈ xs.take k, hasS s t = false) (fun vs _ => match vs with | [.int _ i] => xs.length - i.toNat | _ => 0) (by kernel_rfl) ⟨0, by omega, rfl, Mod.refl _ _, by simp⟩ ?_
  rintro vs w1 J ⟨k, hk, rfl, hM, hall⟩
  by_cases hlt : k < xs.length
  · obtain ⟨b1, o1, c1, e1, _, g1⟩ := (ha.mod hM (by simp)).at (by omega) (by omega)
    have f1 := g1 k _ (getS hlt)
    rw [Value.slice.injEq] at e1
    obtain ⟨rfl, -, -⟩ := e1
    simp (maxSteps := 1000000) (disch := first | omega | (simp only [sizeAlloc, sizeDrew, sizeSet, sizePut] <;> omega) | fail) only [GS, TT_eq, TTl, Nat.reduceAdd, Nat.reduceMul, Nat.reduceSub, Nat.reduceDiv, Nat.reduceMod, Nat.reducePow, Nat.reduceEqDiff, ↓reduceIte, reduceCtorEq, Int.reduceToNat, Int.reduceAdd, Int.reduceSub, Int.reduceMul, f1]
    refine ⟨fok79, tHas_cps xs[k] t (hxs _ (List.getElem_mem hlt)) ht w1 _ fun w2 hM2 => .inl ⟨_, rfl, hold_ops okT (rs := [.tmp 4]) rfl ?_⟩⟩
    cases hb : hasS xs[k] t with
    | true =>
      simp (maxSteps := 1000000) (disch := first | omega | (simp only [sizeAlloc, sizeDrew, sizeSet, sizePut] <;> omega) | fail) only [GS, TT_eq, TTl, Nat.reduceAdd, Nat.reduceMul, Nat.reduceSub, Nat.reduceDiv, Nat.reduceMod, Nat.reducePow, Nat.reduceEqDiff, ↓reduceIte, reduceCtorEq, Int.reduceToNat, Int.reduceAdd, Int.reduceSub, Int.reduceMul]
      have : standsB xs t = true := by unfold standsB; rw [List.any_eq_true]; exact ⟨_, List.getElem_mem hlt, hb⟩
      rw [this] at hR
      exact hR _ (hM.trans hM2 (by simp))
    | false =>
      simp (maxSteps := 1000000) (disch := first | omega | (simp only [sizeAlloc, sizeDrew, sizeSet, sizePut] <;> omega) | fail) only [GS, TT_eq, TTl, Nat.reduceAdd, Nat.reduceMul, Nat.reduceSub, Nat.reduceDiv, Nat.reduceMod, Nat.reducePow, Nat.reduceEqDiff, ↓reduceIte, reduceCtorEq, Int.reduceToNat, Int.reduceAdd, Int.reduceSub, Int.reduceMul]
      refine ⟨⟨k + 1, by omega, rfl, hM.trans hM2 (by simp), ?_⟩, by omega⟩
      intro s hs
      rw [List.take_succ_eq_append_getElem hlt] at hs
      rcases List.mem_append.1 hs with h | h
      · exact hall s h
      · simp only [List.mem_singleton] at h; rw [h]; exact hb
  · have e : k = xs.length := by omega
    subst e
    rw [List.take_length] at hall
    simp (maxSteps := 1000000) (disch := first | omega | (simp only [sizeAlloc, sizeDrew, sizeSet, sizePut] <;> omega) | fail) only [GS, TT_eq, TTl, Nat.reduceAdd, Nat.reduceMul, Nat.reduceSub, Nat.reduceDiv, Nat.reduceMod, Nat.reducePow, Nat.reduceEqDiff, ↓reduceIte, reduceCtorEq, Int.reduceToNat, Int.reduceAdd, Int.reduceSub, Int.reduceMul]
    have : standsB xs t = false := by
      unfold standsB
      rw [List.any_eq_false]
      intro s hs
      rw [hall s hs]; decide
    rw [this] at hR
    exact hR _ hM
set_option maxHeartbeats 4000000 in
theorem hides_cps (d : Nat) (hd : d < 256) (k n s t : Tm) (hk : k.length ≤ 100000) (hn : n.length ≤ 100000) (hs : s.length ≤ 100000) (ht : t.length ≤ 100000) (w : World) (R : Ending → World → Prop)
    (hR : ∀ w', Mod [] w w' → R (.returned (stV (hidesS d k n s t))) w') : Calls Try.prog 48 #[.int .u8 d, .string ⟨k.toArray⟩, .string ⟨n.toArray⟩, .string ⟨s.toArray⟩, .string ⟨t.toArray⟩] w R := by
  refine calls_go 4000 okT Try.func48 rfl (rs := [.tmp 10, .tmp 11]) rfl Try.ntmps48 (args := [.int .u8 d, .string ⟨k.toArray⟩, .string ⟨n.toArray⟩, .string ⟨s.toArray⟩, .string ⟨t.toArray⟩]) ?_
  unfold hidesS at hR
  by_cases h0 : d = 0
  · rw [if_pos h0] at hR
    simp (maxSteps := 1000000) (disch := first | omega | (simp only [sizeAlloc, sizeDrew, sizeSet, sizePut] <;> omega) | fail) only [GS, TT_eq, TTl, Nat.reduceAdd, Nat.reduceMul, Nat.reduceSub, Nat.reduceDiv, Nat.reduceMod, Nat.reducePow, Nat.reduceEqDiff, ↓reduceIte, reduceCtorEq, Int.reduceToNat, Int.reduceAdd, Int.reduceSub, Int.reduceMul]
    refine ⟨fok51, tSeal_cps k n s (by omega) (by omega) (by omega) _ _ fun w1 hM1 => .inl ⟨_, rfl, hold_ops okT (rs := [.tmp 10, .tmp 11]) rfl ?_⟩⟩
    unfold stV at hR ⊢
    simp (maxSteps := 1000000) (disch := first | omega | (simp only [sizeAlloc, sizeDrew, sizeSet, sizePut] <;> omega) | fail) only [GS, TT_eq, TTl, Nat.reduceAdd, Nat.reduceMul, Nat.reduceSub, Nat.reduceDiv, Nat.reduceMod, Nat.reducePow, Nat.reduceEqDiff, ↓reduceIte, reduceCtorEq, Int.reduceToNat, Int.reduceAdd, Int.reduceSub, Int.reduceMul]
    exact hR _ hM1
  rw [if_neg h0] at hR
  by_cases h1 : d = 1
  · rw [if_pos h1] at hR
    simp (maxSteps := 1000000) (disch := first | omega | (simp only [sizeAlloc, sizeDrew, sizeSet, sizePut] <;> omega) | fail) only [GS, TT_eq, TTl, Nat.reduceAdd, Nat.reduceMul, Nat.reduceSub, Nat.reduceDiv, Nat.reduceMod, Nat.reducePow, Nat.reduceEqDiff, ↓reduceIte, reduceCtorEq, Int.reduceToNat, Int.reduceAdd, Int.reduceSub, Int.reduceMul]
    refine ⟨fok80, tMac_cps k t (by omega) (by omega) _ _ fun w1 hM1 => .inl ⟨_, rfl, hold_ops okT (rs := [.tmp 10, .tmp 11]) rfl ?_⟩⟩
    unfold stV at hR ⊢
    simp (maxSteps := 1000000) (disch := first | omega | (simp only [sizeAlloc, sizeDrew, sizeSet, sizePut] <;> omega) | fail) only [GS, TT_eq, TTl, Nat.reduceAdd, Nat.reduceMul, Nat.reduceSub, Nat.reduceDiv, Nat.reduceMod, Nat.reducePow, Nat.reduceEqDiff, ↓reduceIte, reduceCtorEq, Int.reduceToNat, Int.reduceAdd, Int.reduceSub, Int.reduceMul]
    exact hR _ hM1
  rw [if_neg h1] at hR
  by_cases h2 : d = 2
  · rw [if_pos h2] at hR
    simp (maxSteps := 1000000) (disch := first | omega | (simp only [sizeAlloc, sizeDrew, sizeSet, sizePut] <;> omega) | fail) only [GS, TT_eq, TTl, Nat.reduceAdd, Nat.reduceMul, Nat.reduceSub, Nat.reduceDiv, Nat.reduceMod, Nat.reducePow, Nat.reduceEqDiff, ↓reduceIte, reduceCtorEq, Int.reduceToNat, Int.reduceAdd, Int.reduceSub, Int.reduceMul]
    refine ⟨fok81, tHash_cps s (by omega) _ _ fun w1 hM1 => .inl ⟨_, rfl, hold_ops okT (rs := [.tmp 10, .tmp 11]) rfl ?_⟩⟩
    unfold stV at hR ⊢
    simp (maxSteps := 1000000) (disch := first | omega | (simp only [sizeAlloc, sizeDrew, sizeSet, sizePut] <;> omega) | fail) only [GS, TT_eq, TTl, Nat.reduceAdd, Nat.reduceMul, Nat.reduceSub, Nat.reduceDiv, Nat.reduceMod, Nat.reducePow, Nat.reduceEqDiff, ↓reduceIte, reduceCtorEq, Int.reduceToNat, Int.reduceAdd, Int.reduceSub, Int.reduceMul]
    exact hR _ hM1
  rw [if_neg h2] at hR
  by_cases h3 : d = 3
  · rw [if_pos h3] at hR
    simp (maxSteps := 1000000) (disch := first | omega | (simp only [sizeAlloc, sizeDrew, sizeSet, sizePut] <;> omega) | fail) only [GS, TT_eq, TTl, Nat.reduceAdd, Nat.reduceMul, Nat.reduceSub, Nat.reduceDiv, Nat.reduceMod, Nat.reducePow, Nat.reduceEqDiff, ↓reduceIte, reduceCtorEq, Int.reduceToNat, Int.reduceAdd, Int.reduceSub, Int.reduceMul]
    refine ⟨fok51, tSeal_cps k n s (by omega) (by omega) (by omega) _ _ fun w1 hM1 => .inl ⟨_, rfl, hold_ops okT (rs := [.tmp 10, .tmp 11]) rfl ?_⟩⟩
    unfold stV
    simp (maxSteps := 1000000) (disch := first | omega | (simp only [sizeAlloc, sizeDrew, sizeSet, sizePut] <;> omega) | fail) only [GS, TT_eq, TTl, Nat.reduceAdd, Nat.reduceMul, Nat.reduceSub, Nat.reduceDiv, Nat.reduceMod, Nat.reducePow, Nat.reduceEqDiff, ↓reduceIte, reduceCtorEq, Int.reduceToNat, Int.reduceAdd, Int.reduceSub, Int.reduceMul]
    refine ⟨fok81, tHash_cps k (by omega) _ _ fun w2 hM2 => .inl ⟨_, rfl, hold_ops okT (rs := [.tmp 10, .tmp 11]) rfl ?_⟩⟩
    unfold stV
    have q1 : (madeS [115] [k, n, s]).2 = 0 → (madeS [115] [k, n, s]).1.length ≤ 16384 := fun h => (check0 (made_ok (x := (madeS [115] [k, n, s]).1) (by rw [← h]))).2.2.1
    have q2 : (madeS [104] [k]).2 = 0 → (madeS [104] [k]).1.length ≤ 16384 := fun h => (check0 (made_ok (x := (madeS [104] [k]).1) (by rw [← h]))).2.2.1
    generalize madeS [115] [k, n, s] = p1 at *
    generalize madeS [104] [k] = p2 at *
    obtain ⟨x1, e1⟩ := p1
    obtain ⟨x2, e2⟩ := p2
    simp only at hR q1 q2 ⊢
    by_cases h4 : e1 = 0
    · by_cases h5 : e2 = 0
      · rw [if_neg (by rintro (h | h); exact h h4; exact h h5)] at hR
        subst h4 h5
        simp (maxSteps := 1000000) (disch := first | omega | (simp only [sizeAlloc, sizeDrew, sizeSet, sizePut] <;> omega) | fail) only [GS, TT_eq, TTl, Nat.reduceAdd, Nat.reduceMul, Nat.reduceSub, Nat.reduceDiv, Nat.reduceMod, Nat.reducePow, Nat.reduceEqDiff, ↓reduceIte, reduceCtorEq, Int.reduceToNat, Int.reduceAdd, Int.reduceSub, Int.reduceMul]
        have hrd := Rd.lit (w := w2) (size := 1) (n := 3) (e := 9) (xs := [t, x1, x2].map strV) rfl
        refine ⟨fok49, tRow_cps _ [t, x1, x2] _ _ (by simp) (by have := q1 rfl; have := q2 rfl; simp; omega) hrd fun w3 hM3 => .inl ⟨_, rfl, hold_ops okT (rs := [.tmp 10, .tmp 11]) rfl ?_⟩⟩
        unfold stV at hR ⊢
        simp (maxSteps := 1000000) (disch := first | omega | (simp only [sizeAlloc, sizeDrew, sizeSet, sizePut] <;> omega) | fail) only [GS, TT_eq, TTl, Nat.reduceAdd, Nat.reduceMul, Nat.reduceSub, Nat.reduceDiv, Nat.reduceMod, Nat.reducePow, Nat.reduceEqDiff, ↓reduceIte, reduceCtorEq, Int.reduceToNat, Int.reduceAdd, Int.reduceSub, Int.reduceMul]
        exact hR _ (((hM1.trans hM2 (by simp)).trans ((Mod.refl [] w2).alloc _) (by simp)).trans hM3 (by simp))
      · rw [if_pos (.inr h5)] at hR
        subst h4
        unfold stV at hR
        simp (maxSteps := 1000000) (disch := first | omega | (simp only [sizeAlloc, sizeDrew, sizeSet, sizePut] <;> omega) | fail) only [GS, TT_eq, TTl, Nat.reduceAdd, Nat.reduceMul, Nat.reduceSub, Nat.reduceDiv, Nat.reduceMod, Nat.reducePow, Nat.reduceEqDiff, ↓reduceIte, reduceCtorEq, Int.reduceToNat, Int.reduceAdd, Int.reduceSub, Int.reduceMul, h5]
        exact hR _ (hM1.trans hM2 (by simp))
    · rw [if_pos (.inl h4)] at hR
      unfold stV at hR
      simp (maxSteps := 1000000) (disch := first | omega | (simp only [sizeAlloc, sizeDrew, sizeSet, sizePut] <;> omega) | fail) only [GS, TT_eq, TTl, Nat.reduceAdd, Nat.reduceMul, Nat.reduceSub, Nat.reduceDiv, Nat.reduceMod, Nat.reducePow, Nat.reduceEqDiff, ↓reduceIte, reduceCtorEq, Int.reduceToNat, Int.reduceAdd, Int.reduceSub, Int.reduceMul, h4]
      exact hR _ (hM1.trans hM2 (by simp))
  rw [if_neg h3] at hR
  simp (maxSteps := 1000000) (disch := first | omega | (simp only [sizeAlloc, sizeDrew, sizeSet, sizePut] <;> omega) | fail) only [GS, TT_eq, TTl, Nat.reduceAdd, Nat.reduceMul, Nat.reduceSub, Nat.reduceDiv, Nat.reduceMod, Nat.reducePow, Nat.reduceEqDiff, ↓reduceIte, reduceCtorEq, Int.reduceToNat, Int.reduceAdd, Int.reduceSub, Int.reduceMul]
  refine ⟨fok80, tMac_cps t s (by omega) (by omega) _ _ fun w1 hM1 => .inl ⟨_, rfl, hold_ops okT (rs := [.tmp 10, .tmp 11]) rfl ?_⟩⟩
  unfold stV at hR ⊢
  simp (maxSteps := 1000000) (disch := first | omega | (simp only [sizeAlloc, sizeDrew, sizeSet, sizePut] <;> omega) | fail) only [GS, TT_eq, TTl, Nat.reduceAdd, Nat.reduceMul, Nat.reduceSub, Nat.reduceDiv, Nat.reduceMod, Nat.reducePow, Nat.reduceEqDiff, ↓reduceIte, reduceCtorEq, Int.reduceToNat, Int.reduceAdd, Int.reduceSub, Int.reduceMul]
  exact hR _ hM1
theorem atom_is {a k : Tm} (h : atomS a = (k, 0)) : checkS k = 0 ∧ kindS k = 2 ∧ Hd k 0 ∧ k.length ≤ 100 := by
  unfold atomS at h
  split at h
  · simp at h
  · rename_i hl
    split at h
    · rename_i hn
      simp only [Prod.mk.injEq, and_true] at h
      have hhd : Hd k 0 := .inr (.inl ⟨rfl, a, by omega, hn, h.symm⟩)
      have hlk : k.length ≤ 100 := by
        rw [← h]
        have := numL_len (v := a.length) (by omega)
        simp only [List.length_cons, List.length_append]; omega
      have hc : checkS k = 0 := Tr.ok (h := k) (k := .nil) ⟨by simp [encF], hhd, trivial, by simp [hgtF], by omega⟩
      refine ⟨hc, ?_, hhd, hlk⟩
      unfold kindS
      rw [if_pos hc, ← h]; rfl
    · simp at h
theorem row_two {k s : Tm} (hk : Hd k 0) (hs : Hd s 0) (lk : k.length ≤ 100) (ls : s.length ≤ 100) : ∃ r, madeS (114 :: numL 2) [k, s] = (r, 0) ∧ checkS r = 0 ∧ kindS r = 3 ∧ partsS r = [k, s] := by
  have tr : Tr ((114 :: numL 2) ++ encF (.cons k .nil (.cons s .nil .nil))) (114 :: numL 2) (.cons k .nil (.cons s .nil .nil)) := ⟨rfl, .inr (.inr (.inl ⟨by simp [cntF], rfl⟩)), ⟨hk, trivial, hs, trivial, trivial⟩, by simp [hgtF], by
    have := numL_len (v := 2) (by omega)
    simp only [encF, List.length_append, List.length_cons, List.length_nil]; omega⟩
  have hm := tr.made
  have hr : rootsF (.cons k .nil (.cons s .nil .nil)) = [k, s] := by simp [rootsF, encF]
  rw [hr] at hm
  obtain ⟨a, b, c, _⟩ := made_all (h := 114 :: numL 2) (l := [k, s]) (.inr (.inr (.inl ⟨by simp, rfl⟩))) hm
  exact ⟨_, hm, a, c, b⟩
end Go.Proofs.Ytgopgonkchlkfaa
