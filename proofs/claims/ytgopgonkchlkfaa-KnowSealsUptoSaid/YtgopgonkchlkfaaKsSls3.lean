/-
  KnowSeals (the law's walk).
-/
import Derived.Test.YtgopgonkchlkfaaKsSls2
set_option linter.unusedSimpArgs false
set_option linter.unusedVariables false
set_option maxRecDepth 20000
namespace Go.Proofs.Ytgopgonkchlkfaa
open Go Go.Wk Go.RowKit
attribute [local irreducible] go Hold
open Go.Lib
theorem strV1 {l : List Tm} : ∀ u ∈ l.map strV, u.oneCell' = true := by
  intro u hu
  obtain ⟨s, _, rfl⟩ := List.mem_map.1 hu
  rfl
def baseU (p q : List Tm) (k s : Tm) : List Tm := (okL p).flatMap WT ++ (okL q).flatMap WT ++ [s, (madeS [104] [k]).1]
theorem base_len {p q : List Tm} {k s : Tm} (h : sumL (p ++ q) ≤ 6000) : (baseU p q k s).length ≤ 2002 := by
  have h1 := flatW (okL_ok p)
  have h2 := flatW (okL_ok q)
  have h3 := sumL_ok p
  have h4 := sumL_ok q
  rw [sumL_app] at h
  unfold baseU
  unfold sumL at *
  simp only [List.length_append, List.length_cons, List.length_nil]
  omega
theorem len_sum {l : List Tm} {s : Tm} (h : s ∈ l) : s.length ≤ sumL l := by
  induction l with
  | nil => simp at h
  | cons x l ih =>
    rw [sumL_cons]
    rcases List.mem_cons.1 h with rfl | h
    · omega
    · have := ih h; omega
theorem keys_le {S : List Tm} {E : List Ent} {U : List Tm} (h : KnIs S E) (hS : ∀ s ∈ S, checkS s = 0) (hU : ∀ y ∈ S.flatMap WT, y ∈ U) : E.length ≤ U.length := by
  have := nodup_le (keysE E) U h.nd fun t ht => hU t ((h.an t ht).w hS t (WT_self (h.ok t ht).1 (h.ok t ht).2.1 (h.ok t ht).2.2))
  unfold keysE at this
  rwa [List.length_map] at this
set_option maxHeartbeats 16000000 in
theorem seals_cps (pa qa da : Value) (p q : List Tm) (ds : List Nat) (kn sn : Tm) (w : World) (R : Ending → World → Prop) (hp : Rd w 1 pa p.length (p.map strV)) (hps : ∀ s ∈ p, s.length ≤ maxLen) (hpl : p.length ≤ 9223372036854775807) (hq : Rd w 1 qa q.length (q.map strV)) (hqs : ∀ s ∈ q, s.length ≤ maxLen) (hql : q.length ≤ 9223372036854775807)
    (hda : Rd w 1 da ds.length (ds.map fun d : Nat => Value.int .u8 d)) (hd : ∀ d ∈ ds, d < 256) (hdl : ds.length ≤ 9223372036854775807) (hkn : kn.length ≤ maxLen) (hsn : sn.length ≤ maxLen) (hlong : (p.length + q.length) * 16 ≤ 140737488355328)
    (hR : ∀ w', Mod [] w w' → R (.returned (.bool true)) w') : Calls Try.prog 11 #[pa, .string ⟨kn.toArray⟩, .string ⟨sn.toArray⟩, qa, da] w R := by
  obtain ⟨a1, c1, rfl⟩ := hp.slice
  obtain ⟨a2, c2, rfl⟩ := hq.slice
  obtain ⟨a3, c3, rfl⟩ := hda.slice
  refine calls_go 4000 okT Try.func11 rfl (rs := [.tmp 10]) rfl Try.ntmps11 (args := [.slice a1 p.length c1, .string ⟨kn.toArray⟩, .string ⟨sn.toArray⟩, .slice a2 q.length c2, .slice a3 ds.length c3]) ?_
  simp (maxSteps := 1000000) (disch := first | omega | (simp only [sizeAlloc, sizeDrew, sizeSet, sizePut] <;> omega) | fail) only [GS, TT_eq, TTl, Nat.reduceAdd, Nat.reduceMul, Nat.reduceSub, Nat.reduceDiv, Nat.reduceMod, Nat.reducePow, Nat.reduceEqDiff, ↓reduceIte, reduceCtorEq, Int.reduceToNat, Int.reduceAdd, Int.reduceSub, Int.reduceMul]
  refine hold_appendR okT rfl rfl rfl rfl (by decide) w.heap.size (World.ownsRow_nil _ _ _ _) rfl rfl hp strV1 (by simp only; omega) (by unfold maxLen; omega) (Nat.le_refl _) fun v2 w2 hown2 hM2 => hold_ops okT (rs := [.tmp 10]) rfl ?_
  rw [Nat.zero_add, List.nil_append] at hown2
  have hq2 := hq.mod hM2 (by simp [Value.ownBlock])
  have hs2 := hM2.size
  simp (maxSteps := 1000000) (disch := first | omega | (simp only [sizeAlloc, sizeDrew, sizeSet, sizePut] <;> omega) | fail) only [GS, TT_eq, TTl, Nat.reduceAdd, Nat.reduceMul, Nat.reduceSub, Nat.reduceDiv, Nat.reduceMod, Nat.reducePow, Nat.reduceEqDiff, ↓reduceIte, reduceCtorEq, Int.reduceToNat, Int.reduceAdd, Int.reduceSub, Int.reduceMul]
  refine hold_appendR okT rfl rfl rfl rfl (by decide) w.heap.size hown2 rfl rfl hq2 strV1 (by simp only; omega) (by unfold maxLen; omega) hs2 fun v3 w3 hown3 hM3 => hold_ops okT (rs := [.tmp 10]) rfl ?_
  have hM13 : Mod [] w w3 := (hM2.mono (by simp [Value.ownBlock])).trans hM3 fun y hy => .inr (hown2.lt y (by simpa using hy)).1
  rw [← List.map_append, ← List.length_append] at hown3
  simp (maxSteps := 1000000) (disch := first | omega | (simp only [sizeAlloc, sizeDrew, sizeSet, sizePut] <;> omega) | fail) only [GS, TT_eq, TTl, Nat.reduceAdd, Nat.reduceMul, Nat.reduceSub, Nat.reduceDiv, Nat.reduceMod, Nat.reducePow, Nat.reduceEqDiff, ↓reduceIte, reduceCtorEq, Int.reduceToNat, Int.reduceAdd, Int.reduceSub, Int.reduceMul]
  refine ⟨fok12, Long10s_cps _ (p ++ q) _ _ (by rw [List.length_append]; omega) (by intro s hs; rcases List.mem_append.1 hs with h | h; exact hps s h; exact hqs s h) (Rd.own hown3) fun b1 hb1 => .inl ⟨_, rfl, hold_ops okT (rs := [.tmp 10]) rfl ?_⟩⟩
  have alv : ∀ (w1 : World), Mod [] w w1 → ∀ (R' : Ending → World → Prop), (∀ w', Mod [] w w' → R' (.returned (.bool true)) w') → Calls Try.prog 35 #[] w1 R' := fun w1 hM R' h => alive10_cps _ _ fun wz hMz => h _ (hM.trans hMz (by simp))
  cases b1
  rotate_left
  · simp (maxSteps := 1000000) (disch := first | omega | (simp only [sizeAlloc, sizeDrew, sizeSet, sizePut] <;> omega) | fail) only [GS, TT_eq, TTl, Nat.reduceAdd, Nat.reduceMul, Nat.reduceSub, Nat.reduceDiv, Nat.reduceMod, Nat.reducePow, Nat.reduceEqDiff, ↓reduceIte, reduceCtorEq, Int.reduceToNat, Int.reduceAdd, Int.reduceSub, Int.reduceMul]
    refine ⟨fok35, alv _ hM13 _ fun wz hMz => .inl ⟨_, rfl, hold_ops okT (rs := [.tmp 10]) rfl ?_⟩⟩
    simp (maxSteps := 1000000) (disch := first | omega | (simp only [sizeAlloc, sizeDrew, sizeSet, sizePut] <;> omega) | fail) only [GS, TT_eq, TTl, Nat.reduceAdd, Nat.reduceMul, Nat.reduceSub, Nat.reduceDiv, Nat.reduceMod, Nat.reducePow, Nat.reduceEqDiff, ↓reduceIte, reduceCtorEq, Int.reduceToNat, Int.reduceAdd, Int.reduceSub, Int.reduceMul]
    exact hR _ hMz
  obtain ⟨hl40, hsum⟩ := hb1 rfl
  rw [List.length_append] at hl40
  clear hown2 hown3 hM2 hM3 hq2 hs2
  by_cases hd40 : 40 < ds.length
  · simp (maxSteps := 1000000) (disch := first | omega | (simp only [sizeAlloc, sizeDrew, sizeSet, sizePut] <;> omega) | fail) only [GS, TT_eq, TTl, Nat.reduceAdd, Nat.reduceMul, Nat.reduceSub, Nat.reduceDiv, Nat.reduceMod, Nat.reducePow, Nat.reduceEqDiff, ↓reduceIte, reduceCtorEq, Int.reduceToNat, Int.reduceAdd, Int.reduceSub, Int.reduceMul]
    refine ⟨fok35, alv _ hM13 _ fun wz hMz => .inl ⟨_, rfl, hold_ops okT (rs := [.tmp 10]) rfl ?_⟩⟩
    simp (maxSteps := 1000000) (disch := first | omega | (simp only [sizeAlloc, sizeDrew, sizeSet, sizePut] <;> omega) | fail) only [GS, TT_eq, TTl, Nat.reduceAdd, Nat.reduceMul, Nat.reduceSub, Nat.reduceDiv, Nat.reduceMod, Nat.reducePow, Nat.reduceEqDiff, ↓reduceIte, reduceCtorEq, Int.reduceToNat, Int.reduceAdd, Int.reduceSub, Int.reduceMul]
    exact hR _ hMz
  simp (maxSteps := 1000000) (disch := first | omega | (simp only [sizeAlloc, sizeDrew, sizeSet, sizePut] <;> omega) | fail) only [GS, TT_eq, TTl, Nat.reduceAdd, Nat.reduceMul, Nat.reduceSub, Nat.reduceDiv, Nat.reduceMod, Nat.reducePow, Nat.reduceEqDiff, ↓reduceIte, reduceCtorEq, Int.reduceToNat, Int.reduceAdd, Int.reduceSub, Int.reduceMul]
  refine ⟨fok46, tAtom_cps kn hkn _ _ fun w4 hM4 => .inl ⟨_, rfl, hold_ops okT (rs := [.tmp 10]) rfl ?_⟩⟩
  unfold stV
  simp (maxSteps := 1000000) (disch := first | omega | (simp only [sizeAlloc, sizeDrew, sizeSet, sizePut] <;> omega) | fail) only [GS, TT_eq, TTl, Nat.reduceAdd, Nat.reduceMul, Nat.reduceSub, Nat.reduceDiv, Nat.reduceMod, Nat.reducePow, Nat.reduceEqDiff, ↓reduceIte, reduceCtorEq, Int.reduceToNat, Int.reduceAdd, Int.reduceSub, Int.reduceMul]
  refine ⟨fok46, tAtom_cps sn hsn _ _ fun w5 hM5 => .inl ⟨_, rfl, hold_ops okT (rs := [.tmp 10]) rfl ?_⟩⟩
  unfold stV
  have hM05 := (hM13.trans hM4 (by simp)).trans hM5 (by simp)
  clear hM13 hM4 hM5
  have qk := @atom_is kn
  have qs := @atom_is sn
  generalize atomS kn = pk at *
  generalize atomS sn = pS at *
  obtain ⟨k, ek⟩ := pk
  obtain ⟨s, es⟩ := pS
  simp only at qk qs ⊢
  by_cases hek : ek = 0
  rotate_left
  · simp (maxSteps := 1000000) (disch := first | omega | (simp only [sizeAlloc, sizeDrew, sizeSet, sizePut] <;> omega) | fail) only [GS, TT_eq, TTl, Nat.reduceAdd, Nat.reduceMul, Nat.reduceSub, Nat.reduceDiv, Nat.reduceMod, Nat.reducePow, Nat.reduceEqDiff, ↓reduceIte, reduceCtorEq, Int.reduceToNat, Int.reduceAdd, Int.reduceSub, Int.reduceMul, hek]
    refine ⟨fok35, alv _ hM05 _ fun wz hMz => .inl ⟨_, rfl, hold_ops okT (rs := [.tmp 10]) rfl ?_⟩⟩
    simp (maxSteps := 1000000) (disch := first | omega | (simp only [sizeAlloc, sizeDrew, sizeSet, sizePut] <;> omega) | fail) only [GS, TT_eq, TTl, Nat.reduceAdd, Nat.reduceMul, Nat.reduceSub, Nat.reduceDiv, Nat.reduceMod, Nat.reducePow, Nat.reduceEqDiff, ↓reduceIte, reduceCtorEq, Int.reduceToNat, Int.reduceAdd, Int.reduceSub, Int.reduceMul]
    exact hR _ hMz
  by_cases hes : es = 0
  rotate_left
  · subst hek
    simp (maxSteps := 1000000) (disch := first | omega | (simp only [sizeAlloc, sizeDrew, sizeSet, sizePut] <;> omega) | fail) only [GS, TT_eq, TTl, Nat.reduceAdd, Nat.reduceMul, Nat.reduceSub, Nat.reduceDiv, Nat.reduceMod, Nat.reducePow, Nat.reduceEqDiff, ↓reduceIte, reduceCtorEq, Int.reduceToNat, Int.reduceAdd, Int.reduceSub, Int.reduceMul, hes]
    refine ⟨fok35, alv _ hM05 _ fun wz hMz => .inl ⟨_, rfl, hold_ops okT (rs := [.tmp 10]) rfl ?_⟩⟩
    simp (maxSteps := 1000000) (disch := first | omega | (simp only [sizeAlloc, sizeDrew, sizeSet, sizePut] <;> omega) | fail) only [GS, TT_eq, TTl, Nat.reduceAdd, Nat.reduceMul, Nat.reduceSub, Nat.reduceDiv, Nat.reduceMod, Nat.reducePow, Nat.reduceEqDiff, ↓reduceIte, reduceCtorEq, Int.reduceToNat, Int.reduceAdd, Int.reduceSub, Int.reduceMul]
    exact hR _ hMz
  subst hek hes
  obtain ⟨hkc, hkk, hkh, hkl⟩ := qk rfl
  obtain ⟨hsc, hsk, hsh, hsl⟩ := qs rfl
  simp (maxSteps := 1000000) (disch := first | omega | (simp only [sizeAlloc, sizeDrew, sizeSet, sizePut] <;> omega) | fail) only [GS, TT_eq, TTl, Nat.reduceAdd, Nat.reduceMul, Nat.reduceSub, Nat.reduceDiv, Nat.reduceMod, Nat.reducePow, Nat.reduceEqDiff, ↓reduceIte, reduceCtorEq, Int.reduceToNat, Int.reduceAdd, Int.reduceSub, Int.reduceMul]
  refine ⟨fok47, stands_cps _ p k (len16 hkc) _ _ hpl hps (hp.mod hM05 (by simp)) fun w6 hM6 => .inl ⟨_, rfl, hold_ops okT (rs := [.tmp 10]) rfl ?_⟩⟩
  replace hM05 := hM05.trans hM6 (by simp)
  clear hM6
  cases hb1 : standsB p k
  rotate_left
  · simp (maxSteps := 1000000) (disch := first | omega | (simp only [sizeAlloc, sizeDrew, sizeSet, sizePut] <;> omega) | fail) only [GS, TT_eq, TTl, Nat.reduceAdd, Nat.reduceMul, Nat.reduceSub, Nat.reduceDiv, Nat.reduceMod, Nat.reducePow, Nat.reduceEqDiff, ↓reduceIte, reduceCtorEq, Int.reduceToNat, Int.reduceAdd, Int.reduceSub, Int.reduceMul]
    refine ⟨fok35, alv _ hM05 _ fun wz hMz => .inl ⟨_, rfl, hold_ops okT (rs := [.tmp 10]) rfl ?_⟩⟩
    simp (maxSteps := 1000000) (disch := first | omega | (simp only [sizeAlloc, sizeDrew, sizeSet, sizePut] <;> omega) | fail) only [GS, TT_eq, TTl, Nat.reduceAdd, Nat.reduceMul, Nat.reduceSub, Nat.reduceDiv, Nat.reduceMod, Nat.reducePow, Nat.reduceEqDiff, ↓reduceIte, reduceCtorEq, Int.reduceToNat, Int.reduceAdd, Int.reduceSub, Int.reduceMul]
    exact hR _ hMz
  simp (maxSteps := 1000000) (disch := first | omega | (simp only [sizeAlloc, sizeDrew, sizeSet, sizePut] <;> omega) | fail) only [GS, TT_eq, TTl, Nat.reduceAdd, Nat.reduceMul, Nat.reduceSub, Nat.reduceDiv, Nat.reduceMod, Nat.reducePow, Nat.reduceEqDiff, ↓reduceIte, reduceCtorEq, Int.reduceToNat, Int.reduceAdd, Int.reduceSub, Int.reduceMul]
  refine ⟨fok47, stands_cps _ p s (len16 hsc) _ _ hpl hps (hp.mod hM05 (by simp)) fun w7 hM6 => .inl ⟨_, rfl, hold_ops okT (rs := [.tmp 10]) rfl ?_⟩⟩
  replace hM05 := hM05.trans hM6 (by simp)
  clear hM6
  cases hb2 : standsB p s
  rotate_left
  · simp (maxSteps := 1000000) (disch := first | omega | (simp only [sizeAlloc, sizeDrew, sizeSet, sizePut] <;> omega) | fail) only [GS, TT_eq, TTl, Nat.reduceAdd, Nat.reduceMul, Nat.reduceSub, Nat.reduceDiv, Nat.reduceMod, Nat.reducePow, Nat.reduceEqDiff, ↓reduceIte, reduceCtorEq, Int.reduceToNat, Int.reduceAdd, Int.reduceSub, Int.reduceMul]
    refine ⟨fok35, alv _ hM05 _ fun wz hMz => .inl ⟨_, rfl, hold_ops okT (rs := [.tmp 10]) rfl ?_⟩⟩
    simp (maxSteps := 1000000) (disch := first | omega | (simp only [sizeAlloc, sizeDrew, sizeSet, sizePut] <;> omega) | fail) only [GS, TT_eq, TTl, Nat.reduceAdd, Nat.reduceMul, Nat.reduceSub, Nat.reduceDiv, Nat.reduceMod, Nat.reducePow, Nat.reduceEqDiff, ↓reduceIte, reduceCtorEq, Int.reduceToNat, Int.reduceAdd, Int.reduceSub, Int.reduceMul]
    exact hR _ hMz
  simp (maxSteps := 1000000) (disch := first | omega | (simp only [sizeAlloc, sizeDrew, sizeSet, sizePut] <;> omega) | fail) only [GS, TT_eq, TTl, Nat.reduceAdd, Nat.reduceMul, Nat.reduceSub, Nat.reduceDiv, Nat.reduceMod, Nat.reducePow, Nat.reduceEqDiff, ↓reduceIte, reduceCtorEq, Int.reduceToNat, Int.reduceAdd, Int.reduceSub, Int.reduceMul]
  refine ⟨fok47, stands_cps _ q k (len16 hkc) _ _ hql hqs (hq.mod hM05 (by simp)) fun w8 hM6 => .inl ⟨_, rfl, hold_ops okT (rs := [.tmp 10]) rfl ?_⟩⟩
  replace hM05 := hM05.trans hM6 (by simp)
  clear hM6
  cases hb3 : standsB q k
  rotate_left
  · simp (maxSteps := 1000000) (disch := first | omega | (simp only [sizeAlloc, sizeDrew, sizeSet, sizePut] <;> omega) | fail) only [GS, TT_eq, TTl, Nat.reduceAdd, Nat.reduceMul, Nat.reduceSub, Nat.reduceDiv, Nat.reduceMod, Nat.reducePow, Nat.reduceEqDiff, ↓reduceIte, reduceCtorEq, Int.reduceToNat, Int.reduceAdd, Int.reduceSub, Int.reduceMul]
    refine ⟨fok35, alv _ hM05 _ fun wz hMz => .inl ⟨_, rfl, hold_ops okT (rs := [.tmp 10]) rfl ?_⟩⟩
    simp (maxSteps := 1000000) (disch := first | omega | (simp only [sizeAlloc, sizeDrew, sizeSet, sizePut] <;> omega) | fail) only [GS, TT_eq, TTl, Nat.reduceAdd, Nat.reduceMul, Nat.reduceSub, Nat.reduceDiv, Nat.reduceMod, Nat.reducePow, Nat.reduceEqDiff, ↓reduceIte, reduceCtorEq, Int.reduceToNat, Int.reduceAdd, Int.reduceSub, Int.reduceMul]
    exact hR _ hMz
  simp (maxSteps := 1000000) (disch := first | omega | (simp only [sizeAlloc, sizeDrew, sizeSet, sizePut] <;> omega) | fail) only [GS, TT_eq, TTl, Nat.reduceAdd, Nat.reduceMul, Nat.reduceSub, Nat.reduceDiv, Nat.reduceMod, Nat.reducePow, Nat.reduceEqDiff, ↓reduceIte, reduceCtorEq, Int.reduceToNat, Int.reduceAdd, Int.reduceSub, Int.reduceMul]
  refine ⟨fok47, stands_cps _ q s (len16 hsc) _ _ hql hqs (hq.mod hM05 (by simp)) fun w9 hM6 => .inl ⟨_, rfl, hold_ops okT (rs := [.tmp 10]) rfl ?_⟩⟩
  replace hM05 := hM05.trans hM6 (by simp)
  clear hM6
  cases hb4 : standsB q s
  rotate_left
  · simp (maxSteps := 1000000) (disch := first | omega | (simp only [sizeAlloc, sizeDrew, sizeSet, sizePut] <;> omega) | fail) only [GS, TT_eq, TTl, Nat.reduceAdd, Nat.reduceMul, Nat.reduceSub, Nat.reduceDiv, Nat.reduceMod, Nat.reducePow, Nat.reduceEqDiff, ↓reduceIte, reduceCtorEq, Int.reduceToNat, Int.reduceAdd, Int.reduceSub, Int.reduceMul]
    refine ⟨fok35, alv _ hM05 _ fun wz hMz => .inl ⟨_, rfl, hold_ops okT (rs := [.tmp 10]) rfl ?_⟩⟩
    simp (maxSteps := 1000000) (disch := first | omega | (simp only [sizeAlloc, sizeDrew, sizeSet, sizePut] <;> omega) | fail) only [GS, TT_eq, TTl, Nat.reduceAdd, Nat.reduceMul, Nat.reduceSub, Nat.reduceDiv, Nat.reduceMod, Nat.reducePow, Nat.reduceEqDiff, ↓reduceIte, reduceCtorEq, Int.reduceToNat, Int.reduceAdd, Int.reduceSub, Int.reduceMul]
    exact hR _ hMz
  have no : ∀ {l : List Tm} {u : Tm}, standsB l u = false → checkS u = 0 → ∀ t ∈ l, checkS t = 0 → NoSub u t := by
    intro l u h hu t ht hc
    unfold standsB at h
    rw [List.any_eq_false] at h
    exact has_no hc hu (by simpa using h t ht)
  have hpsum : sumL p ≤ 6000 := by rw [sumL_app] at hsum; omega
  have hqsum : sumL q ≤ 6000 := by rw [sumL_app] at hsum; omega
  simp (maxSteps := 1000000) (disch := first | omega | (simp only [sizeAlloc, sizeDrew, sizeSet, sizePut] <;> omega) | fail) only [GS, TT_eq, TTl, Nat.reduceAdd, Nat.reduceMul, Nat.reduceSub, Nat.reduceDiv, Nat.reduceMod, Nat.reducePow, Nat.reduceEqDiff, ↓reduceIte, reduceCtorEq, Int.reduceToNat, Int.reduceAdd, Int.reduceSub, Int.reduceMul]
  refine ⟨fok45, seen_cps _ p _ _ hpl hps (hp.mod hM05 (by simp)) hpsum fun wa ka ma Ea hIa hFa hKa hka hMa => .inl ⟨_, rfl, hold_ops okT (rs := [.tmp 10]) rfl ?_⟩⟩
  replace hMa := hM05.trans hMa (by simp)
  have hwk : w.heap.size ≤ ka := by have := hM05.size; omega
  have hul := base_len (k := k) (s := s) hsum
  simp (maxSteps := 1000000) (disch := first | omega | (simp only [sizeAlloc, sizeDrew, sizeSet, sizePut] <;> omega) | fail) only [GS, TT_eq, TTl, Nat.reduceAdd, Nat.reduceMul, Nat.reduceSub, Nat.reduceDiv, Nat.reduceMod, Nat.reducePow, Nat.reduceEqDiff, ↓reduceIte, reduceCtorEq, Int.reduceToNat, Int.reduceAdd, Int.reduceSub, Int.reduceMul]
  have hS0 : ∀ x ∈ okL p, checkS x = 0 ∧ HdT k s x := fun x hx => ⟨okL_ok p x hx, .no (no hb1 hkc x (okL_in hx) (okL_ok p x hx)) (no hb2 hsc x (okL_in hx) (okL_ok p x hx))⟩
  have hrq : ∀ w' j (hj : j < q.length), Mod [] w w' → ∃ b o, a2 = some ⟨b, o, none⟩ ∧ w'.cell? ⟨b, o + j, none⟩ = some (.string ⟨q[j].toArray⟩) := fun w' j hj hM => by
    obtain ⟨b, o, c, e, _, g⟩ := (hq.mod hM (by simp)).at (by omega) (by omega)
    rw [Value.slice.injEq] at e
    exact ⟨b, o, e.1, g j _ (getS hj)⟩
  have hrd : ∀ w' j (hj : j < ds.length), Mod [] w w' → ∃ b o, a3 = some ⟨b, o, none⟩ ∧ w'.cell? ⟨b, o + j, none⟩ = some (.int .u8 (ds[j] : Nat)) := fun w' j hj hM => by
    obtain ⟨b, o, c, e, _, g⟩ := (hda.mod hM (by simp)).at (by omega) (by omega)
    rw [Value.slice.injEq] at e
    exact ⟨b, o, e.1, g j _ (by rw [List.getElem?_map, List.getElem?_eq_getElem hj]; rfl)⟩
  refine hold_loop okT (rs := [.tmp 10]) rfl [16] [10, 17, 18, 19, 74, 75, 76, 77, 78, 79, 80, 81, 82, 83, 84, 85, 86, 87, 88, 89, 90, 91, 92, 93, 94, 95, 96, 97, 98, 99, 100, 101, 102, 103, 104, 105, 106, 107, 108, 109, 110, 111, 112, 113, 114, 115, 116, 117, 118, 119, 120, 121, 122, 123, 124, 125, 126, 127, 128, 129, 130, 131, 132] (fun vs w' => ∃ (j mb : Nat) (S Z : List Tm) (E : List Ent), j ≤ ds.length ∧ vs = [.int .i64 j] ∧ (∀ x ∈ S, checkS x = 0 ∧ HdT k s x) ∧ (∀ y ∈ S.flatMap WT, y ∈ baseU p q k s ++ Z) ∧ Z.length ≤ j ∧ KnIs S E ∧ FinE E ∧ KnAt w' ka mb E ∧ Mod [] w w') (fun vs _ => match vs with | [.int _ i] => ds.length - i.toNat | _ => 0) (by kernel_rfl) ⟨0, ma, okL p, [], Ea, by omega, rfl, hS0, ?_, by simp, hIa, hFa, hKa, hMa⟩ ?_
  · intro y hy
    unfold baseU
    simp [hy]
  clear hKa hMa
  rintro vs w1 J ⟨j, mb, S, Z, E, hj, rfl, hS, hU, hZ, hI, hF, hK, hM⟩
  have hSo : ∀ x ∈ S, checkS x = 0 := fun x hx => (hS x hx).1
  by_cases hlt : j < ds.length ∧ 0 < q.length
  · obtain ⟨hlt, hq0⟩ := hlt
    have hm1 : (j : Int).tmod (q.length : Int) = ((j % q.length : Nat) : Int) := (Int.ofNat_tmod j q.length).symm
    have hm2 : ((j : Int) + 1).tmod (q.length : Int) = (((j + 1) % q.length : Nat) : Int) := (Int.ofNat_tmod (j + 1) q.length).symm
    have hn1 := Nat.mod_lt j hq0
    have hn2 := Nat.mod_lt (j + 1) hq0
    generalize j % q.length = i1 at *
    generalize (j + 1) % q.length = i2 at *
    obtain ⟨b3, o3, e3, f1⟩ := hrq w1 i1 hn1 hM
    subst e3
    simp (maxSteps := 1000000) (disch := first | omega | (simp only [sizeAlloc, sizeDrew, sizeSet, sizePut] <;> omega) | fail) only [GS, TT_eq, TTl, Nat.reduceAdd, Nat.reduceMul, Nat.reduceSub, Nat.reduceDiv, Nat.reduceMod, Nat.reducePow, Nat.reduceEqDiff, ↓reduceIte, reduceCtorEq, Int.reduceToNat, Int.reduceAdd, Int.reduceSub, Int.reduceMul, hm1, f1]
    refine hold_draw okT (rs := [.tmp 10]) rfl [0, 0, 3, 7, 0, 0, 0, 0, 0, 256, 0, 1024, 3840, 8064, 16256, 32767, 65535, 131071, 131071, 262143, 1048575] [0, 1, 2, 3, 4, 5, 6, 7, 8, 9, 10, 11, 12, 13, 14, 15, 16, 17, 18, 19, 20] (by kernel_rfl) (by kernel_rfl) ?_
    have hD := (Mod.refl [] w1).drewN 1
    replace hM := hM.trans hD (by simp)
    replace hK := hK.mod0 hD
    clear hD f1
    generalize w1.drewN 1 = w2 at *
    obtain ⟨b4, o4, e4, f2⟩ := hrq w2 i2 hn2 hM
    simp only [Option.some.injEq, Addr.mk.injEq, and_true] at e4
    obtain ⟨rfl, rfl⟩ := e4
    obtain ⟨b5, o5, e5, f3⟩ := hrd w2 j hlt hM
    subst e5
    have hq1m := List.getElem_mem hn1
    have hq2m := List.getElem_mem hn2
    have hdm := hd _ (List.getElem_mem hlt)
    generalize q[i1] = n at *
    generalize q[i2] = t at *
    generalize ds[j] = d at *
    have hnl : n.length ≤ 100000 := by have := len_sum hq1m; omega
    have htl : t.length ≤ 100000 := by have := len_sum hq2m; omega
    have hho := @hides_ok d k n s t
    simp (maxSteps := 1000000) (disch := first | omega | (simp only [sizeAlloc, sizeDrew, sizeSet, sizePut] <;> omega) | fail) only [GS, TT_eq, TTl, Nat.reduceAdd, Nat.reduceMul, Nat.reduceSub, Nat.reduceDiv, Nat.reduceMod, Nat.reducePow, Nat.reduceEqDiff, ↓reduceIte, reduceCtorEq, Int.reduceToNat, Int.reduceAdd, Int.reduceSub, Int.reduceMul, hm2, f2, f3]
    refine ⟨fok48, hides_cps d hdm k n s t (by omega) hnl (by omega) htl w2 _ fun w3 hM3 => .inl ⟨_, rfl, hold_dops okT (rs := [.tmp 10]) rfl ?_⟩⟩
    replace hM := hM.trans hM3 (by simp)
    replace hK := hK.mod0 hM3
    clear hM3 f2 f3
    generalize hidesS d k n s t = px at *
    obtain ⟨x, ex⟩ := px
    unfold stV
    by_cases he : ex = 0
    rotate_left
    · simp (maxSteps := 1000000) (disch := first | omega | (simp only [sizeAlloc, sizeDrew, sizeSet, sizePut] <;> omega) | fail) only [GS, TT_eq, TTl, Nat.reduceAdd, Nat.reduceMul, Nat.reduceSub, Nat.reduceDiv, Nat.reduceMod, Nat.reducePow, Nat.reduceEqDiff, ↓reduceIte, reduceCtorEq, Int.reduceToNat, Int.reduceAdd, Int.reduceSub, Int.reduceMul, he]
      exact ⟨⟨j + 1, mb, S, Z, E, by omega, rfl, hS, hU, by omega, hI, hF, hK, hM⟩, by omega⟩
    subst he
    obtain ⟨hxc, hxH, z, hz⟩ := hho ⟨hkc, hkk⟩ ⟨hsc, hsk⟩ (fun hc => ⟨no hb3 hkc n hq1m hc, no hb4 hsc n hq1m hc⟩) (fun hc => ⟨no hb3 hkc t hq2m hc, no hb4 hsc t hq2m hc⟩) rfl
    have hS' : ∀ y ∈ S ++ [x], checkS y = 0 ∧ HdT k s y := by
      intro y hy
      rcases List.mem_append.1 hy with h | h
      · exact hS y h
      · simp only [List.mem_singleton] at h; rw [h]; exact ⟨hxc, hxH⟩
    have hU' : ∀ y ∈ (S ++ [x]).flatMap WT, y ∈ baseU p q k s ++ (Z ++ [z]) := by
      intro y hy
      rw [List.flatMap_append, List.mem_append] at hy
      rcases hy with h | h
      · have := hU y h
        simp only [List.mem_append] at this ⊢
        rcases this with h | h
        · exact .inl h
        · exact .inr (.inl h)
      · simp only [List.flatMap_cons, List.flatMap_nil, List.append_nil] at h
        unfold baseU
        simp only [List.mem_append, List.mem_cons, List.not_mem_nil, or_false]
        rcases hz y h with rfl | rfl | rfl | ⟨hc, h⟩ | ⟨hc, h⟩
        · exact .inr (.inr rfl)
        · exact .inl (.inr (.inl rfl))
        · exact .inl (.inr (.inr rfl))
        · exact .inl (.inl (.inr (List.mem_flatMap.2 ⟨n, okL_mem hq1m hc, h⟩)))
        · exact .inl (.inl (.inr (List.mem_flatMap.2 ⟨t, okL_mem hq2m hc, h⟩)))
    have hSo' : ∀ y ∈ S ++ [x], checkS y = 0 := fun y hy => (hS' y hy).1
    simp (maxSteps := 1000000) (disch := first | omega | (simp only [sizeAlloc, sizeDrew, sizeSet, sizePut] <;> omega) | fail) only [GS, TT_eq, TTl, Nat.reduceAdd, Nat.reduceMul, Nat.reduceSub, Nat.reduceDiv, Nat.reduceMod, Nat.reducePow, Nat.reduceEqDiff, ↓reduceIte, reduceCtorEq, Int.reduceToNat, Int.reduceAdd, Int.reduceSub, Int.reduceMul]
    refine ⟨fok36, learn_cps S hSo E hI hF x (len16 hxc) ka mb w3 hK _ (fun hc => absurd hxc hc) (fun _ E4 mr4 w4 hI4 hF4 _ hK4 _ hM4 => ?_) (fun _ E4 w4 hI4 hn4 _ => ?_)⟩
    rotate_left
    · exfalso
      have := keys_le hI4 hSo' hU'
      simp only [List.length_append, List.length_cons, List.length_nil] at this
      omega
    refine .inl ⟨_, rfl, hold_ops okT (rs := [.tmp 10]) rfl ?_⟩
    replace hM : Mod [] w w4 := hM.trans hM4 (by intro y hy; simp only [List.mem_singleton] at hy; subst hy; exact .inr hwk)
    clear hM4 hK
    obtain ⟨nk, ns, nr⟩ := hidden hkk hsk fun y hy => (hS' y hy).2
    have cx : (decide (checkS x = 0) && mkB E4 x) = true := by
      rw [decide_eq_true hxc, Bool.true_and, mkB_iff]
      exact (hI4.makes hF4 hSo').2 (.has (AnT.seen (by simp)))
    have ck : (decide (checkS k = 0) && mkB E4 k) = false := by
      rw [decide_eq_true hkc, Bool.true_and, Bool.eq_false_iff]
      exact fun h => nk ((hI4.makes hF4 hSo').1 (mkB_iff.1 h))
    have cs : (decide (checkS s = 0) && mkB E4 s) = false := by
      rw [decide_eq_true hsc, Bool.true_and, Bool.eq_false_iff]
      exact fun h => ns ((hI4.makes hF4 hSo').1 (mkB_iff.1 h))
    simp (maxSteps := 1000000) (disch := first | omega | (simp only [sizeAlloc, sizeDrew, sizeSet, sizePut] <;> omega) | fail) only [GS, TT_eq, TTl, Nat.reduceAdd, Nat.reduceMul, Nat.reduceSub, Nat.reduceDiv, Nat.reduceMod, Nat.reducePow, Nat.reduceEqDiff, ↓reduceIte, reduceCtorEq, Int.reduceToNat, Int.reduceAdd, Int.reduceSub, Int.reduceMul]
    refine ⟨fok17, Can_cps E4 x (len16 hxc) ka mr4 w4 hK4 _ fun w5 hM5 => .inl ⟨_, rfl, hold_ops okT (rs := [.tmp 10]) rfl ?_⟩⟩
    rw [cx]
    simp (maxSteps := 1000000) (disch := first | omega | (simp only [sizeAlloc, sizeDrew, sizeSet, sizePut] <;> omega) | fail) only [GS, TT_eq, TTl, Nat.reduceAdd, Nat.reduceMul, Nat.reduceSub, Nat.reduceDiv, Nat.reduceMod, Nat.reducePow, Nat.reduceEqDiff, ↓reduceIte, reduceCtorEq, Int.reduceToNat, Int.reduceAdd, Int.reduceSub, Int.reduceMul]
    refine ⟨fok17, Can_cps E4 k (len16 hkc) ka mr4 w5 (hK4.mod0 hM5) _ fun w6 hM6 => .inl ⟨_, rfl, hold_ops okT (rs := [.tmp 10]) rfl ?_⟩⟩
    rw [ck]
    have hM56 := hM5.trans hM6 (by simp)
    simp (maxSteps := 1000000) (disch := first | omega | (simp only [sizeAlloc, sizeDrew, sizeSet, sizePut] <;> omega) | fail) only [GS, TT_eq, TTl, Nat.reduceAdd, Nat.reduceMul, Nat.reduceSub, Nat.reduceDiv, Nat.reduceMod, Nat.reducePow, Nat.reduceEqDiff, ↓reduceIte, reduceCtorEq, Int.reduceToNat, Int.reduceAdd, Int.reduceSub, Int.reduceMul]
    refine ⟨fok17, Can_cps E4 s (len16 hsc) ka mr4 w6 (hK4.mod0 hM56) _ fun w7 hM7 => .inl ⟨_, rfl, hold_ops okT (rs := [.tmp 10]) rfl ?_⟩⟩
    rw [cs]
    have hM57 := hM56.trans hM7 (by simp)
    simp (maxSteps := 1000000) (disch := first | omega | (simp only [sizeAlloc, sizeDrew, sizeSet, sizePut] <;> omega) | fail) only [GS, TT_eq, TTl, Nat.reduceAdd, Nat.reduceMul, Nat.reduceSub, Nat.reduceDiv, Nat.reduceMod, Nat.reducePow, Nat.reduceEqDiff, ↓reduceIte, reduceCtorEq, Int.reduceToNat, Int.reduceAdd, Int.reduceSub, Int.reduceMul]
    refine ⟨⟨j + 1, mr4, S ++ [x], Z ++ [z], E4, by omega, rfl, hS', hU', ?_, hI4, hF4, hK4.mod0 hM57, hM.trans hM57 (by simp)⟩, by omega⟩
    simp only [List.length_append, List.length_cons, List.length_nil]
    omega
  · obtain ⟨nk, ns, nr⟩ := hidden hkk hsk fun y hy => (hS y hy).2
    have ck : (decide (checkS k = 0) && mkB E k) = false := by
      rw [decide_eq_true hkc, Bool.true_and, Bool.eq_false_iff]
      exact fun h => nk ((hI.makes hF hSo).1 (mkB_iff.1 h))
    have cs : (decide (checkS s = 0) && mkB E s) = false := by
      rw [decide_eq_true hsc, Bool.true_and, Bool.eq_false_iff]
      exact fun h => ns ((hI.makes hF hSo).1 (mkB_iff.1 h))
    obtain ⟨r, hr, hrc, hrk, hrp⟩ := row_two hkh hsh hkl hsl
    have cr : (decide (checkS r = 0) && mkB E r) = false := by
      rw [decide_eq_true hrc, Bool.true_and, Bool.eq_false_iff]
      exact fun h => nr r hrk hrp ((hI.makes hF hSo).1 (mkB_iff.1 h))
    have hU' : ∀ y ∈ (S ++ [k]).flatMap WT, y ∈ baseU p q k s ++ (Z ++ [k]) := by
      intro y hy
      rw [List.flatMap_append, List.mem_append] at hy
      rcases hy with h | h
      · have := hU y h
        simp only [List.mem_append] at this ⊢
        rcases this with h | h
        · exact .inl h
        · exact .inr (.inl h)
      · simp only [List.flatMap_cons, List.flatMap_nil, List.append_nil] at h
        rw [WT_oth hkc (by omega) (by omega) (by omega)] at h
        simp only [List.mem_append]
        exact .inr (.inr h)
    have hSo' : ∀ y ∈ S ++ [k], checkS y = 0 := by
      intro y hy
      rcases List.mem_append.1 hy with h | h
      · exact hSo y h
      · simp only [List.mem_singleton] at h; rw [h]; exact hkc
    by_cases hjd : j < ds.length
    · have hq0 : q.length = 0 := by omega
      simp (maxSteps := 1000000) (disch := first | omega | (simp only [sizeAlloc, sizeDrew, sizeSet, sizePut] <;> omega) | fail) only [GS, TT_eq, TTl, Nat.reduceAdd, Nat.reduceMul, Nat.reduceSub, Nat.reduceDiv, Nat.reduceMod, Nat.reducePow, Nat.reduceEqDiff, ↓reduceIte, reduceCtorEq, Int.reduceToNat, Int.reduceAdd, Int.reduceSub, Int.reduceMul]
      have hrl : Rd (w1.alloc (.cells #[.string ⟨k.toArray⟩, .string ⟨s.toArray⟩] 9)) 1 (.slice (some ⟨w1.heap.size, 0, none⟩) 2 2) 2 ([k, s].map strV) := Rd.lit (n := 2) (xs := [k, s].map strV) rfl
      have hMl := (Mod.refl [] w1).alloc (.cells #[.string ⟨k.toArray⟩, .string ⟨s.toArray⟩] 9)
      refine ⟨fok49, tRow_cps _ [k, s] _ _ (by simp) (by simp; omega) hrl fun w2 hM2 => .inl ⟨_, rfl, hold_ops okT (rs := [.tmp 10]) rfl ?_⟩⟩
      rw [show madeS (114 :: numL [k, s].length) [k, s] = (r, 0) from hr]
      unfold stV
      have hM12 := hMl.trans hM2 (by simp)
      have hM02 := hM.trans hM12 (by simp)
      have hK2 := hK.mod0 hM12
      simp (maxSteps := 1000000) (disch := first | omega | (simp only [sizeAlloc, sizeDrew, sizeSet, sizePut] <;> omega) | fail) only [GS, TT_eq, TTl, Nat.reduceAdd, Nat.reduceMul, Nat.reduceSub, Nat.reduceDiv, Nat.reduceMod, Nat.reducePow, Nat.reduceEqDiff, ↓reduceIte, reduceCtorEq, Int.reduceToNat, Int.reduceAdd, Int.reduceSub, Int.reduceMul]
      refine ⟨fok17, Can_cps E k (len16 hkc) ka mb w2 hK2 _ fun w3 hM3 => .inl ⟨_, rfl, hold_ops okT (rs := [.tmp 10]) rfl ?_⟩⟩
      rw [ck]
      simp (maxSteps := 1000000) (disch := first | omega | (simp only [sizeAlloc, sizeDrew, sizeSet, sizePut] <;> omega) | fail) only [GS, TT_eq, TTl, Nat.reduceAdd, Nat.reduceMul, Nat.reduceSub, Nat.reduceDiv, Nat.reduceMod, Nat.reducePow, Nat.reduceEqDiff, ↓reduceIte, reduceCtorEq, Int.reduceToNat, Int.reduceAdd, Int.reduceSub, Int.reduceMul]
      refine ⟨fok17, Can_cps E s (len16 hsc) ka mb w3 (hK2.mod0 hM3) _ fun w4 hM4 => .inl ⟨_, rfl, hold_ops okT (rs := [.tmp 10]) rfl ?_⟩⟩
      rw [cs]
      have hM24 := hM3.trans hM4 (by simp)
      simp (maxSteps := 1000000) (disch := first | omega | (simp only [sizeAlloc, sizeDrew, sizeSet, sizePut] <;> omega) | fail) only [GS, TT_eq, TTl, Nat.reduceAdd, Nat.reduceMul, Nat.reduceSub, Nat.reduceDiv, Nat.reduceMod, Nat.reducePow, Nat.reduceEqDiff, ↓reduceIte, reduceCtorEq, Int.reduceToNat, Int.reduceAdd, Int.reduceSub, Int.reduceMul]
      refine ⟨fok17, Can_cps E r (len16 hrc) ka mb w4 (hK2.mod0 hM24) _ fun w5 hM5 => .inl ⟨_, rfl, hold_ops okT (rs := [.tmp 10]) rfl ?_⟩⟩
      rw [cr]
      have hM25 := hM24.trans hM5 (by simp)
      have hM05' := hM02.trans hM25 (by simp)
      simp (maxSteps := 1000000) (disch := first | omega | (simp only [sizeAlloc, sizeDrew, sizeSet, sizePut] <;> omega) | fail) only [GS, TT_eq, TTl, Nat.reduceAdd, Nat.reduceMul, Nat.reduceSub, Nat.reduceDiv, Nat.reduceMod, Nat.reducePow, Nat.reduceEqDiff, ↓reduceIte, reduceCtorEq, Int.reduceToNat, Int.reduceAdd, Int.reduceSub, Int.reduceMul]
      refine ⟨fok36, learn_cps S hSo E hI hF k (len16 hkc) ka mb w5 (hK2.mod0 hM25) _ (fun hc => absurd hkc hc) (fun _ E6 mr6 w6 hI6 hF6 _ hK6 _ hM6 => ?_) (fun _ E6 w6 hI6 hn6 _ => ?_)⟩
      rotate_left
      · exfalso
        have := keys_le hI6 hSo' hU'
        simp only [List.length_append, List.length_cons, List.length_nil] at this
        omega
      refine .inl ⟨_, rfl, hold_ops okT (rs := [.tmp 10]) rfl ?_⟩
      have hMf : Mod [] w w6 := hM05'.trans hM6 (by intro y hy; simp only [List.mem_singleton] at hy; subst hy; exact .inr hwk)
      have ck6 : (decide (checkS k = 0) && mkB E6 k) = true := by
        rw [decide_eq_true hkc, Bool.true_and, mkB_iff]
        exact (hI6.makes hF6 hSo').2 (.has (AnT.seen (by simp)))
      simp (maxSteps := 1000000) (disch := first | omega | (simp only [sizeAlloc, sizeDrew, sizeSet, sizePut] <;> omega) | fail) only [GS, TT_eq, TTl, Nat.reduceAdd, Nat.reduceMul, Nat.reduceSub, Nat.reduceDiv, Nat.reduceMod, Nat.reducePow, Nat.reduceEqDiff, ↓reduceIte, reduceCtorEq, Int.reduceToNat, Int.reduceAdd, Int.reduceSub, Int.reduceMul]
      refine ⟨fok17, Can_cps E6 k (len16 hkc) ka mr6 w6 hK6 _ fun w7 hM7 => .inl ⟨_, rfl, hold_ops okT (rs := [.tmp 10]) rfl ?_⟩⟩
      rw [ck6]
      simp (maxSteps := 1000000) (disch := first | omega | (simp only [sizeAlloc, sizeDrew, sizeSet, sizePut] <;> omega) | fail) only [GS, TT_eq, TTl, Nat.reduceAdd, Nat.reduceMul, Nat.reduceSub, Nat.reduceDiv, Nat.reduceMod, Nat.reducePow, Nat.reduceEqDiff, ↓reduceIte, reduceCtorEq, Int.reduceToNat, Int.reduceAdd, Int.reduceSub, Int.reduceMul]
      refine ⟨fok35, alv _ (hMf.trans hM7 (by simp)) _ fun wz hMz => .inl ⟨_, rfl, hold_ops okT (rs := [.tmp 10]) rfl ?_⟩⟩
      simp (maxSteps := 1000000) (disch := first | omega | (simp only [sizeAlloc, sizeDrew, sizeSet, sizePut] <;> omega) | fail) only [GS, TT_eq, TTl, Nat.reduceAdd, Nat.reduceMul, Nat.reduceSub, Nat.reduceDiv, Nat.reduceMod, Nat.reducePow, Nat.reduceEqDiff, ↓reduceIte, reduceCtorEq, Int.reduceToNat, Int.reduceAdd, Int.reduceSub, Int.reduceMul]
      exact hR _ hMz
    · skip
      simp (maxSteps := 1000000) (disch := first | omega | (simp only [sizeAlloc, sizeDrew, sizeSet, sizePut] <;> omega) | fail) only [GS, TT_eq, TTl, Nat.reduceAdd, Nat.reduceMul, Nat.reduceSub, Nat.reduceDiv, Nat.reduceMod, Nat.reducePow, Nat.reduceEqDiff, ↓reduceIte, reduceCtorEq, Int.reduceToNat, Int.reduceAdd, Int.reduceSub, Int.reduceMul]
      have hrl : Rd (w1.alloc (.cells #[.string ⟨k.toArray⟩, .string ⟨s.toArray⟩] 9)) 1 (.slice (some ⟨w1.heap.size, 0, none⟩) 2 2) 2 ([k, s].map strV) := Rd.lit (n := 2) (xs := [k, s].map strV) rfl
      have hMl := (Mod.refl [] w1).alloc (.cells #[.string ⟨k.toArray⟩, .string ⟨s.toArray⟩] 9)
      refine ⟨fok49, tRow_cps _ [k, s] _ _ (by simp) (by simp; omega) hrl fun w2 hM2 => .inl ⟨_, rfl, hold_ops okT (rs := [.tmp 10]) rfl ?_⟩⟩
      rw [show madeS (114 :: numL [k, s].length) [k, s] = (r, 0) from hr]
      unfold stV
      have hM12 := hMl.trans hM2 (by simp)
      have hM02 := hM.trans hM12 (by simp)
      have hK2 := hK.mod0 hM12
      simp (maxSteps := 1000000) (disch := first | omega | (simp only [sizeAlloc, sizeDrew, sizeSet, sizePut] <;> omega) | fail) only [GS, TT_eq, TTl, Nat.reduceAdd, Nat.reduceMul, Nat.reduceSub, Nat.reduceDiv, Nat.reduceMod, Nat.reducePow, Nat.reduceEqDiff, ↓reduceIte, reduceCtorEq, Int.reduceToNat, Int.reduceAdd, Int.reduceSub, Int.reduceMul]
      refine ⟨fok17, Can_cps E k (len16 hkc) ka mb w2 hK2 _ fun w3 hM3 => .inl ⟨_, rfl, hold_ops okT (rs := [.tmp 10]) rfl ?_⟩⟩
      rw [ck]
      simp (maxSteps := 1000000) (disch := first | omega | (simp only [sizeAlloc, sizeDrew, sizeSet, sizePut] <;> omega) | fail) only [GS, TT_eq, TTl, Nat.reduceAdd, Nat.reduceMul, Nat.reduceSub, Nat.reduceDiv, Nat.reduceMod, Nat.reducePow, Nat.reduceEqDiff, ↓reduceIte, reduceCtorEq, Int.reduceToNat, Int.reduceAdd, Int.reduceSub, Int.reduceMul]
      refine ⟨fok17, Can_cps E s (len16 hsc) ka mb w3 (hK2.mod0 hM3) _ fun w4 hM4 => .inl ⟨_, rfl, hold_ops okT (rs := [.tmp 10]) rfl ?_⟩⟩
      rw [cs]
      have hM24 := hM3.trans hM4 (by simp)
      simp (maxSteps := 1000000) (disch := first | omega | (simp only [sizeAlloc, sizeDrew, sizeSet, sizePut] <;> omega) | fail) only [GS, TT_eq, TTl, Nat.reduceAdd, Nat.reduceMul, Nat.reduceSub, Nat.reduceDiv, Nat.reduceMod, Nat.reducePow, Nat.reduceEqDiff, ↓reduceIte, reduceCtorEq, Int.reduceToNat, Int.reduceAdd, Int.reduceSub, Int.reduceMul]
      refine ⟨fok17, Can_cps E r (len16 hrc) ka mb w4 (hK2.mod0 hM24) _ fun w5 hM5 => .inl ⟨_, rfl, hold_ops okT (rs := [.tmp 10]) rfl ?_⟩⟩
      rw [cr]
      have hM25 := hM24.trans hM5 (by simp)
      have hM05' := hM02.trans hM25 (by simp)
      simp (maxSteps := 1000000) (disch := first | omega | (simp only [sizeAlloc, sizeDrew, sizeSet, sizePut] <;> omega) | fail) only [GS, TT_eq, TTl, Nat.reduceAdd, Nat.reduceMul, Nat.reduceSub, Nat.reduceDiv, Nat.reduceMod, Nat.reducePow, Nat.reduceEqDiff, ↓reduceIte, reduceCtorEq, Int.reduceToNat, Int.reduceAdd, Int.reduceSub, Int.reduceMul]
      refine ⟨fok36, learn_cps S hSo E hI hF k (len16 hkc) ka mb w5 (hK2.mod0 hM25) _ (fun hc => absurd hkc hc) (fun _ E6 mr6 w6 hI6 hF6 _ hK6 _ hM6 => ?_) (fun _ E6 w6 hI6 hn6 _ => ?_)⟩
      rotate_left
      · exfalso
        have := keys_le hI6 hSo' hU'
        simp only [List.length_append, List.length_cons, List.length_nil] at this
        omega
      refine .inl ⟨_, rfl, hold_ops okT (rs := [.tmp 10]) rfl ?_⟩
      have hMf : Mod [] w w6 := hM05'.trans hM6 (by intro y hy; simp only [List.mem_singleton] at hy; subst hy; exact .inr hwk)
      have ck6 : (decide (checkS k = 0) && mkB E6 k) = true := by
        rw [decide_eq_true hkc, Bool.true_and, mkB_iff]
        exact (hI6.makes hF6 hSo').2 (.has (AnT.seen (by simp)))
      simp (maxSteps := 1000000) (disch := first | omega | (simp only [sizeAlloc, sizeDrew, sizeSet, sizePut] <;> omega) | fail) only [GS, TT_eq, TTl, Nat.reduceAdd, Nat.reduceMul, Nat.reduceSub, Nat.reduceDiv, Nat.reduceMod, Nat.reducePow, Nat.reduceEqDiff, ↓reduceIte, reduceCtorEq, Int.reduceToNat, Int.reduceAdd, Int.reduceSub, Int.reduceMul]
      refine ⟨fok17, Can_cps E6 k (len16 hkc) ka mr6 w6 hK6 _ fun w7 hM7 => .inl ⟨_, rfl, hold_ops okT (rs := [.tmp 10]) rfl ?_⟩⟩
      rw [ck6]
      simp (maxSteps := 1000000) (disch := first | omega | (simp only [sizeAlloc, sizeDrew, sizeSet, sizePut] <;> omega) | fail) only [GS, TT_eq, TTl, Nat.reduceAdd, Nat.reduceMul, Nat.reduceSub, Nat.reduceDiv, Nat.reduceMod, Nat.reducePow, Nat.reduceEqDiff, ↓reduceIte, reduceCtorEq, Int.reduceToNat, Int.reduceAdd, Int.reduceSub, Int.reduceMul]
      refine ⟨fok35, alv _ (hMf.trans hM7 (by simp)) _ fun wz hMz => .inl ⟨_, rfl, hold_ops okT (rs := [.tmp 10]) rfl ?_⟩⟩
      simp (maxSteps := 1000000) (disch := first | omega | (simp only [sizeAlloc, sizeDrew, sizeSet, sizePut] <;> omega) | fail) only [GS, TT_eq, TTl, Nat.reduceAdd, Nat.reduceMul, Nat.reduceSub, Nat.reduceDiv, Nat.reduceMod, Nat.reducePow, Nat.reduceEqDiff, ↓reduceIte, reduceCtorEq, Int.reduceToNat, Int.reduceAdd, Int.reduceSub, Int.reduceMul]
      exact hR _ hMz
end Go.Proofs.Ytgopgonkchlkfaa
