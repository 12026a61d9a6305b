/-
  A term that is swapped, and back (plain).
-/
import Derived.Test.YtfobkimmpiahjaaSwt1
set_option linter.unusedSimpArgs false
set_option linter.unusedVariables false
namespace Go.Proofs.Ytfobkimmpiahjaa
open Go Go.Wk Go.RowKit
attribute [local irreducible] go Hold
theorem tr_is {x h : List UInt8} {k : Fr} (hc : checkS x = 0) (hx : x = h ++ encF k) (h1 : Hd h (cntF k)) (h2 : okF k) : Tr x h k := by
  obtain ⟨h', k', t⟩ := tr_of hc
  obtain ⟨rfl, e2, hk⟩ := h1.eq t.2.1 (hx.symm.trans t.1)
  obtain ⟨rfl, _⟩ := encF_inj k k' [] [] h2 t.2.2.1 hk (by simpa using e2)
  exact t
theorem subs_len : ∀ (F : Fr) (s : List UInt8), s ∈ subsF F → s.length ≤ (encF F).length
  | .nil, s, h => by simp [subsF] at h
  | .cons h k r, s, hs => by
    simp only [subsF, List.mem_cons, List.mem_append] at hs
    simp only [encF, List.length_append]
    rcases hs with rfl | hs | hs
    · rw [List.length_append]; omega
    · have := subs_len k s hs; omega
    · have := subs_len r s hs; omega
theorem sw_none (f hT : List UInt8) (kT : Fr) : ∀ F, f ∉ subsF F → swF f hT kT F = F
  | .nil, _ => rfl
  | .cons h k r, hn => by
    simp only [subsF, List.mem_cons, List.mem_append, not_or] at hn
    simp only [swF]
    rw [if_neg (fun e => hn.1 e.symm), sw_none f hT kT k hn.2.1, sw_none f hT kT r hn.2.2]
theorem sw_has (f hT : List UInt8) (kT : Fr) : ∀ F, f ∈ subsF F → hT ++ encF kT ∈ subsF (swF f hT kT F)
  | .nil, h => by simp [subsF] at h
  | .cons h k r, hs => by
    simp only [subsF, List.mem_cons, List.mem_append] at hs
    simp only [swF]
    split
    · simp [subsF]
    · rename_i hm
      simp only [subsF, List.mem_cons, List.mem_append]
      rcases hs with hs | hs | hs
      · exact absurd hs.symm hm
      · exact .inr (.inl (sw_has f hT kT k hs))
      · exact .inr (.inr (sw_has f hT kT r hs))
theorem sw_back {f T hf hT : List UInt8} {kf kT : Fr} (ef : f = hf ++ encF kf) (hf1 : Hd hf (cntF kf)) (hf2 : okF kf) (eT : T = hT ++ encF kT) : ∀ F, okF F → T ∉ subsF F → swF T hf kf (swF f hT kT F) = F
  | .nil, _, _ => rfl
  | .cons h k r, ⟨h1, h2, h3⟩, hn => by
    have hp := h1.pos
    have hn' := hn
    simp only [subsF, List.mem_cons, List.mem_append, not_or] at hn'
    by_cases hm : h ++ encF k = f
    · obtain ⟨rfl, e2, hk⟩ := h1.eq hf1 (hm.trans ef)
      obtain ⟨rfl, _⟩ := encF_inj k kf [] [] h2 hf2 hk (by simpa using e2)
      simp only [swF, if_pos hm]
      rw [if_pos eT.symm, sw_back ef hf1 hf2 eT r h3 hn'.2.2]
    · simp only [swF, if_neg hm]
      have hx : h ++ encF (swF f hT kT k) ≠ T := by
        intro e
        by_cases hfk : f ∈ subsF k
        · have := subs_len _ _ (sw_has f hT kT k hfk)
          rw [← eT, ← e, List.length_append] at this
          omega
        · rw [sw_none f hT kT k hfk] at e
          exact hn'.1 e.symm
      rw [if_neg hx, sw_back ef hf1 hf2 eT k h2 hn'.2.1, sw_back ef hf1 hf2 eT r h3 hn'.2.2]
theorem subs_trans {f hf : List UInt8} {kf : Fr} (ef : f = hf ++ encF kf) (hf1 : Hd hf (cntF kf)) (hf2 : okF kf) : ∀ F, okF F → f ∈ subsF F → ∀ x ∈ subsF kf, x ∈ subsF F
  | .nil, _, h, _, _ => by simp [subsF] at h
  | .cons h k r, ⟨h1, h2, h3⟩, hs, x, hx => by
    simp only [subsF, List.mem_cons, List.mem_append] at hs ⊢
    rcases hs with hs | hs | hs
    · obtain ⟨rfl, e2, hk⟩ := h1.eq hf1 (hs.symm.trans ef)
      obtain ⟨rfl, _⟩ := encF_inj k kf [] [] h2 hf2 hk (by simpa using e2)
      exact .inr (.inl hx)
    · exact .inr (.inl (subs_trans ef hf1 hf2 k h2 hs x hx))
    · exact .inr (.inr (subs_trans ef hf1 hf2 r h3 hs x hx))
theorem sw_fresh {f T hf hT : List UInt8} {kf kT : Fr} (ef : f = hf ++ encF kf) (hf1 : Hd hf (cntF kf)) (hf2 : okF kf) (eT : T = hT ++ encF kT) (hT1 : Hd hT (cntF kT)) (hT2 : okF kT) (hno : f ∉ subsF (.cons hT kT .nil)) :
    ∀ F, okF F → T ∉ subsF F → f ∉ subsF (swF f hT kT F)
  | .nil, _, _ => by simp [swF, subsF]
  | .cons h k r, ⟨h1, h2, h3⟩, hn => by
    have hn' := hn
    simp only [subsF, List.mem_cons, List.mem_append, not_or] at hn' hno
    have hr := sw_fresh ef hf1 hf2 eT hT1 hT2 (by simpa [subsF] using hno) r h3 hn'.2.2
    by_cases hm : h ++ encF k = f
    · simp only [swF, if_pos hm, subsF, List.mem_cons, List.mem_append, not_or]
      exact ⟨hno.1, hno.2.1, hr⟩
    · simp only [swF, if_neg hm, subsF, List.mem_cons, List.mem_append, not_or]
      refine ⟨fun e => ?_, sw_fresh ef hf1 hf2 eT hT1 hT2 (by simpa [subsF] using hno) k h2 hn'.2.1, hr⟩
      by_cases hfk : f ∈ subsF k
      · have hTk := sw_has f hT kT k hfk
        have hd' : Hd h (cntF (swF f hT kT k)) := by rw [sw_cnt]; exact h1
        obtain ⟨rfl, e2, hk⟩ := hd'.eq hf1 (e.symm.trans ef)
        obtain ⟨e3, _⟩ := encF_inj (swF f hT kT k) kf [] [] (sw_ok hT1 hT2 k h2) hf2 hk (by simpa using e2)
        rw [e3, ← eT] at hTk
        exact hn'.2.1 (subs_trans ef hf1 hf2 k h2 hfk T hTk)
      · rw [sw_none f hT kT k hfk] at e
        exact hm e.symm
/-- What TermBack says, of what the code computes. -/
theorem back_plain {t f T s : List UInt8} (ht : checkS t = 0) (hf : checkS f = 0) (hT : checkS T = 0) (h : swapS t f T = (s, 0)) :
    (hasS t f = false → s = t) ∧ (hasS t f = true → hasS t T = true → hasS s T = true) ∧
    (hasS t f = true → hasS t T = false → swapS s T f = (t, 0) ∧ hasS s T = true ∧ (hasS T f = true ∨ hasS s f = false)) := by
  obtain ⟨ha, ka, A⟩ := tr_of ht
  obtain ⟨hb, kb, B⟩ := tr_of hf
  obtain ⟨hc, kc, C⟩ := tr_of hT
  have hokA : okF (.cons ha ka .nil) := ⟨A.2.1, A.2.2.1, trivial⟩
  rw [swap_eq A C hf] at h
  generalize hX : swF f hc kc (.cons ha ka .nil) = X at h
  split at h
  · rename_i hs0
    simp only [Prod.mk.injEq, and_true] at h
    rw [h] at hs0
    obtain ⟨hd, kd, rfl⟩ : ∃ hd kd, X = .cons hd kd .nil := by
      rw [← hX]; simp only [swF]; split
      · exact ⟨_, _, rfl⟩
      · exact ⟨_, _, rfl⟩
    have hokX : okF (.cons hd kd .nil) := by rw [← hX]; exact sw_ok C.2.1 C.2.2.1 _ hokA
    have D : Tr s hd kd := tr_is hs0 (by rw [← h]; simp [encF]) hokX.1 hokX.2.1
    have hasA : ∀ x, checkS x = 0 → hasS t x = decide (x ∈ subsF (.cons ha ka .nil)) := fun x hx => by unfold hasS; rw [decide_eq_true ⟨ht, hx⟩, A.has, Bool.true_and]
    have hasD : ∀ x, checkS x = 0 → hasS s x = decide (x ∈ subsF (.cons hd kd .nil)) := fun x hx => by unfold hasS; rw [decide_eq_true ⟨hs0, hx⟩, D.has, Bool.true_and]
    have hasC : hasS T f = decide (f ∈ subsF (.cons hc kc .nil)) := by unfold hasS; rw [decide_eq_true ⟨hT, hf⟩, C.has, Bool.true_and]
    rw [hasA f hf, hasA T hT, hasD T hT, hasD f hf, hasC]
    simp only [decide_eq_true_eq, decide_eq_false_iff_not]
    refine ⟨fun hn => ?_, fun hy _ => ?_, fun hy hn => ⟨?_, ?_, ?_⟩⟩
    · rw [sw_none f hc kc _ hn] at hX
      rw [← h, ← hX, A.1]; simp [encF]
    · rw [C.1, ← hX]; exact sw_has f hc kc _ hy
    · rw [swap_eq D B hT, ← hX, sw_back B.1 B.2.1 B.2.2.1 C.1 _ hokA hn]
      have : encF (.cons ha ka .nil) = t := by rw [A.1]; simp [encF]
      rw [this, if_pos ht]
    · rw [C.1, ← hX]; exact sw_has f hc kc _ hy
    · by_cases hno : f ∈ subsF (.cons hc kc .nil)
      · exact .inl hno
      · refine .inr ?_
        rw [← hX]
        exact sw_fresh B.1 B.2.1 B.2.2.1 C.1 C.2.1 C.2.2.1 hno _ hokA hn
  · simp at h
end Go.Proofs.Ytfobkimmpiahjaa
