/-
  What was sealed is opened (plain); Kind (walk).
-/
import Derived.Test.YtoladcdelaemoaaQcImg1
set_option linter.unusedSimpArgs false
set_option linter.unusedVariables false
set_option maxRecDepth 20000
namespace Go.Proofs.Ytoladcdelaemoaa
open Go Go.Wk Go.RowKit
attribute [local irreducible] go Hold
open Go.Lib
theorem data_all {s t : Tm} (h : dataS s = (t, 0)) : checkS t = 0 ∧ kindS t = 1 ∧ textS t = (s, true) ∧ s.length ≤ 1024 ∧ s.length < t.length := by
  unfold dataS at h
  split at h
  · simp at h
  · rename_i hs
    simp only [Prod.mk.injEq, and_true] at h
    subst h
    have hn : (numL s.length).length ≤ 9 := numL_len (by omega)
    have tr : Tr (100 :: (numL s.length ++ s)) (100 :: (numL s.length ++ s)) .nil := by
      refine ⟨by simp [encF], .inl ⟨rfl, s, by omega, rfl⟩, trivial, by simp [hgtF], ?_⟩
      simp only [List.length_cons, List.length_append]
      omega
    have hk : kindS (100 :: (numL s.length ++ s)) = 1 := by unfold kindS; rw [if_pos tr.ok]; rfl
    refine ⟨tr.ok, hk, ?_, by omega, by simp only [List.length_cons, List.length_append]; omega⟩
    unfold textS
    rw [if_pos (.inl hk), List.drop_succ_cons, List.drop_zero]
    have := readText_of s 1024 (by omega) (by omega) []
    rw [List.append_nil] at this
    rw [this]
theorem sealC_is {kt : List Int} {key nonce s c : Tm} (h : sealC kt key nonce s = (c, 0)) : nonce.length = 12 ∧ s.length ≤ 65536 ∧ c = (nonce ++ turnC kt key nonce s) ++ tagC kt key (nonce ++ turnC kt key nonce s) := by
  unfold sealC at h
  by_cases h1 : nonce.length = 12
  · rw [if_pos h1] at h
    by_cases h2 : 65536 < s.length
    · rw [if_pos h2] at h; exact absurd (congrArg Prod.snd h) (by simp)
    · rw [if_neg h2] at h
      exact ⟨h1, by omega, (congrArg Prod.fst h).symm⟩
  · rw [if_neg h1] at h; exact absurd (congrArg Prod.snd h) (by simp)
theorem openC_back {kt : List Int} {key nonce s c : Tm} (h : sealC kt key nonce s = (c, 0)) : openC kt key c = (s, 0) ∧ c.length = 44 + s.length := by
  obtain ⟨h1, h2, h3⟩ := sealC_is h
  have hu : (turnC kt key nonce s).length = s.length := trnF_len _ _ _
  have hx : (nonce ++ turnC kt key nonce s).length = 12 + s.length := by rw [List.length_append, h1, hu]
  have ht : (tagC kt key (nonce ++ turnC kt key nonce s)).length = 32 := hmF_len _ _ _
  have hc : c.length = 44 + s.length := by rw [h3, List.length_append, hx, ht]; omega
  refine ⟨?_, hc⟩
  have e1 : c.take (c.length - 32) = nonce ++ turnC kt key nonce s := by rw [hc, h3, show 44 + s.length - 32 = (nonce ++ turnC kt key nonce s).length by rw [hx]; omega, List.take_left]
  have e2 : c.drop (c.length - 32) = tagC kt key (nonce ++ turnC kt key nonce s) := by rw [hc, h3, show 44 + s.length - 32 = (nonce ++ turnC kt key nonce s).length by rw [hx]; omega, List.drop_left]
  have e3 : c.take 12 = nonce := by rw [h3, ← h1, List.append_assoc, List.take_left]
  unfold openC
  rw [if_neg (by omega), if_neg (by omega), e1, e2, if_pos rfl, e3, ← h1, List.drop_left]
  unfold turnC
  rw [trnF_back]
theorem allS_2 {a b : Tm} : allS [a, b] = true ↔ checkS a = 0 ∧ checkS b = 0 := by unfold allS; simp
theorem allS_3 {a b c : Tm} : allS [a, b, c] = true ↔ checkS a = 0 ∧ checkS b = 0 ∧ checkS c = 0 := by unfold allS; simp
theorem sealG_in {kt : List Int} {σ : Sut} {k n t x : Tm} (h : sealG kt σ k n t = (x, 0)) : checkS k = 0 ∧ checkS n = 0 ∧ checkS t = 0 := by
  unfold sealG at h
  by_cases hal : allS [k, n, t] = true
  · exact allS_3.1 hal
  · rw [if_neg hal] at h; exact absurd (congrArg Prod.snd h) (by simp)
theorem sealBy_is {kt : List Int} {k n t x : Tm} (h : sealBy kt k n t = (x, 0)) : kindS k = 1 ∧ kindS n = 1 ∧ ∃ c, sealC kt (textS k).1 (textS n).1 t = (c, 0) ∧ dataS c = (x, 0) := by
  unfold sealBy at h
  by_cases h1 : kindS k = 1 ∧ kindS n = 1
  · rw [if_pos h1] at h
    by_cases h2 : (sealC kt (textS k).1 (textS n).1 t).2 = 0
    · rw [if_pos h2] at h
      exact ⟨h1.1, h1.2, _, by rw [← h2], h⟩
    · rw [if_neg h2] at h; exact absurd (congrArg Prod.snd h) (by simp)
  · rw [if_neg h1] at h; exact absurd (congrArg Prod.snd h) (by simp)
/-- What was sealed is opened with its key; and it is another thing. -/
theorem seal_back {kt : List Int} {σ : Sut} {k n t x : Tm} (h : sealG kt σ k n t = (x, 0)) : openG kt σ k x = (t, 0) ∧ ¬ x = t ∧ checkS x = 0 ∧ x.length ≤ 16384 := by
  obtain ⟨hk, hn, ht⟩ := sealG_in h
  cases σ with
  | trm =>
    obtain ⟨hx, h6, hp, _⟩ := seal_is h
    refine ⟨?_, ?_, hx, (check0 hx).2.2.1⟩
    · unfold openG
      rw [if_pos (allS_2.2 ⟨hk, hx⟩)]
      show openT k x = _
      unfold openT
      rw [if_pos h6, hp, if_pos (show [k, n, t].getD 0 [] = k from rfl)]
      rfl
    · rintro rfl
      have := part_lt hx (p := x) (by rw [hp]; simp)
      omega
  | byt m =>
    have hal : allS [k, n, t] = true := allS_3.2 ⟨hk, hn, ht⟩
    unfold sealG at h
    rw [if_pos hal] at h
    obtain ⟨k1, n1, c, hc, hd⟩ := sealBy_is h
    obtain ⟨o1, o2⟩ := openC_back hc
    obtain ⟨d1, d2, d3, d4, d5⟩ := data_all hd
    refine ⟨?_, ?_, d1, (check0 d1).2.2.1⟩
    · unfold openG
      rw [if_pos (allS_2.2 ⟨hk, d1⟩)]
      show openBy kt k x = _
      unfold openBy
      rw [if_pos k1, if_pos d2, d3, o1, if_pos rfl, if_pos ht]
    · rintro rfl
      omega
end Go.Proofs.Ytoladcdelaemoaa
