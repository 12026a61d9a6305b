/-
  What a term is made of, and what is made of terms (plain).
-/
import Derived.Test.YticoollhaachfaaTre2
import Derived.Test.YticoollhaachfaaPrt2
set_option linter.unusedSimpArgs false
set_option linter.unusedVariables false
namespace Go.Proofs.Yticoollhaachfaa
open Go Go.Wk Go.RowKit
attribute [local irreducible] go Hold
def rootsF : Fr → List (List UInt8)
  | .nil => []
  | .cons h k r => (h ++ encF k) :: rootsF r
theorem roots_flat : ∀ F, (rootsF F).flatten = encF F
  | .nil => rfl
  | .cons h k r => by simp [rootsF, encF, roots_flat r]
theorem roots_cnt : ∀ F, (rootsF F).length = cntF F
  | .nil => rfl
  | .cons h k r => by simp [rootsF, cntF, roots_cnt r]
theorem cnt0 {F : Fr} (h : cntF F = 0) : F = .nil := by
  cases F with
  | nil => rfl
  | cons _ _ _ => simp [cntF] at h
theorem end_deep : ∀ (F : Fr) (p d' d : Nat), d < d' → (endF F p d').filter (fun q => decide (q.2.2 = d)) = []
  | .nil, _, _, _, _ => rfl
  | .cons h k r, p, d', d, hd => by
    simp only [endF, List.filter_append, List.filter_cons]
    rw [end_deep k _ (d' + 1) d (by omega), end_deep r _ d' d hd]
    rw [if_neg (by simp; omega)]
    rfl
theorem cut_of {S x rest : List UInt8} {p q d : Nat} (h : S.drop p = x ++ rest) (hq : q = p + x.length) : cutS S (p, q, d) = x := by
  unfold cutS
  simp only
  rw [h, hq, Nat.add_sub_cancel_left, List.take_left']
  rfl
theorem end_roots (S : List UInt8) : ∀ (F : Fr) (p : Nat), (∃ rest, S.drop p = encF F ++ rest) → pS S (endF F p 2) = rootsF F
  | .nil, p, _ => rfl
  | .cons h k r, p, ⟨rest, hr⟩ => by
    simp only [encF, List.append_assoc] at hr
    have h1 := end_deep k (p + h.length) 3 2 (by omega)
    have h2 := end_roots S r (p + h.length + (encF k).length) ⟨rest, by rw [Nat.add_assoc, ← List.drop_drop, hr, ← List.append_assoc, List.drop_left' (by rw [List.length_append])]⟩
    unfold pS at h2 ⊢
    simp only [endF, List.filter_append, List.filter_cons]
    rw [h1, if_pos (by simp), List.nil_append, List.map_cons, h2, rootsF, cut_of (x := h ++ encF k) (rest := encF r ++ rest) (by rw [hr]; simp) (by rw [List.length_append]; omega)]
theorem Tr.parts {S h : List UInt8} {k : Fr} (t : Tr S h k) : partsS S = rootsF k := by
  unfold partsS
  rw [t.walk]
  simp only
  rw [pS_snoc, if_neg (by simp), end_roots S k h.length ⟨[], by rw [t.1, List.drop_left]; simp⟩]
theorem Tr.pos {S h : List UInt8} {k : Fr} (t : Tr S h k) : 1 ≤ S.length := by
  rw [t.1, List.length_append]; have := t.2.1.pos; omega
/-- Texts that are terms, side by side. -/
theorem forest_of : ∀ (l : List (List UInt8)), allS l = true → ∃ K, okF K ∧ rootsF K = l ∧ hgtF K ≤ 16
  | [], _ => ⟨.nil, trivial, rfl, Nat.zero_le _⟩
  | s :: l, h => by
    have hs : checkS s = 0 ∧ allS l = true := by unfold allS at h ⊢; simpa using h
    obtain ⟨K, k1, k2, k3⟩ := forest_of l hs.2
    obtain ⟨hd, k, t⟩ := tr_of hs.1
    obtain ⟨e, t1, t2, t3, t4⟩ := t
    exact ⟨.cons hd k K, ⟨t1, t2, k1⟩, by simp only [rootsF, k2, e], by simp only [hgtF]; omega⟩
theorem join_short : ∀ (l : List (List UInt8)) (s : List UInt8), (joinS s l).length ≤ 16384 → joinS s l = s ++ l.flatten
  | [], s, _ => by simp [joinS]
  | x :: l, s, h => by
    by_cases hs : s.length ≤ 16384
    · rw [joinS, if_pos hs] at h ⊢
      rw [join_short l _ h]; simp
    · rw [joinS, if_neg hs] at h; omega
theorem join_fits : ∀ (l : List (List UInt8)) (s : List UInt8), (s ++ l.flatten).length ≤ 16384 → joinS s l = s ++ l.flatten
  | [], s, _ => by simp [joinS]
  | x :: l, s, h => by
    have hs : s.length ≤ 16384 := by rw [List.length_append] at h; omega
    rw [joinS, if_pos hs, join_fits l (s ++ x) (by simpa using h)]
    simp
theorem made_is {front : List UInt8} {l : List (List UInt8)} (hf : Hd front l.length) {x : List UInt8} (h : madeS front l = (x, 0)) : ∃ K, Tr x front K ∧ rootsF K = l := by
  unfold madeS at h
  by_cases ha : allS l = true
  · rw [if_pos ha] at h
    by_cases hc : checkS (joinS front l) = 0
    · rw [if_pos hc] at h
      simp only [Prod.mk.injEq, and_true] at h
      rw [h] at hc
      obtain ⟨K, k1, k2, k3⟩ := forest_of l ha
      obtain ⟨hd, k, t⟩ := tr_of hc
      have hj := join_short l front (by rw [h]; exact t.2.2.2.2)
      rw [h] at hj
      have hcnt : cntF K = l.length := by rw [← roots_cnt, k2]
      obtain ⟨e, t1, t2, t3, t4⟩ := id t
      rw [hj, ← k2, roots_flat] at e
      obtain ⟨rfl, e2, hk⟩ := hf.eq t1 e
      obtain ⟨rfl, _⟩ := encF_inj K k [] [] k1 t2 (by omega) (by simpa using e2)
      exact ⟨K, t, k2⟩
    · rw [if_neg hc] at h; simp at h
  · rw [if_neg ha] at h; simp at h
theorem Tr.root {S h : List UInt8} {k : Fr} (t : Tr S h k) : ∀ x ∈ rootsF k, checkS x = 0 := by
  obtain ⟨e, t1, t2, t3, t4⟩ := t
  have hl : (encF k).length ≤ 16384 := by have := congrArg List.length e; rw [List.length_append] at this; omega
  clear e t1 t4
  have key : ∀ k : Fr, okF k → hgtF k ≤ 15 → (encF k).length ≤ 16384 → ∀ x ∈ rootsF k, checkS x = 0 := by
    intro k
    induction k with
    | nil => intro _ _ _ x hx; simp [rootsF] at hx
    | cons h k r ihk ihr =>
      intro ⟨a1, a2, a3⟩ hh hl x hx
      simp only [hgtF] at hh
      simp only [encF, List.length_append] at hl
      simp only [rootsF, List.mem_cons] at hx
      rcases hx with rfl | hx
      · exact Tr.ok (h := h) (k := k) ⟨rfl, a1, a2, by omega, by rw [List.length_append]; omega⟩
      · exact ihr a3 (by omega) (by omega) x hx
  exact key k t2 t3 hl
theorem Tr.made {S h : List UInt8} {k : Fr} (t : Tr S h k) : madeS h (rootsF k) = (S, 0) := by
  have ha : allS (rootsF k) = true := by unfold allS; rw [List.all_eq_true]; intro x hx; simp [t.root x hx]
  unfold madeS
  rw [if_pos ha, join_fits _ _ (by rw [roots_flat, ← t.1]; exact t.2.2.2.2), roots_flat, ← t.1, if_pos t.ok]
theorem row_short {n : Nat} {rest : List UInt8} (hn : n < 18446744073709551616) (h : checkS (114 :: numL n ++ rest) = 0) : n ≤ 32 := by
  obtain ⟨hd, k, t⟩ := tr_of h
  have h1 := front_of t.2.1 (encF k)
  rw [← t.1] at h1
  simp only [List.cons_append, frontS] at h1
  rw [if_neg (by decide), if_neg (by decide), if_pos (by decide), readNum_of n hn rest] at h1
  simp only [true_and] at h1
  split at h1
  · simp at h1
  · omega
theorem rowMade_is {l : List (List UInt8)} (hl : l.length ≤ 9223372036854775807) {x : List UInt8} (h : madeS (114 :: numL l.length) l = (x, 0)) : ∃ K, Tr x (114 :: numL l.length) K ∧ rootsF K = l := by
  have hx : checkS x = 0 ∧ x = (114 :: numL l.length) ++ l.flatten := by
    unfold madeS at h
    split at h
    · split at h
      · rename_i hc
        simp only [Prod.mk.injEq, and_true] at h
        rw [h] at hc
        refine ⟨hc, ?_⟩
        rw [← h]
        exact join_short _ _ (by rw [h]; exact (check0 hc).2.2.1)
      · simp at h
    · simp at h
  have := row_short (n := l.length) (rest := l.flatten) (by omega) (by rw [← hx.2]; exact hx.1)
  exact made_is (.inr (.inr (.inl ⟨this, rfl⟩))) h
theorem made_ok {front : List UInt8} {l : List (List UInt8)} {x : List UInt8} (h : madeS front l = (x, 0)) : checkS x = 0 := by
  unfold madeS at h
  split at h
  · split at h
    · rename_i hc
      simp only [Prod.mk.injEq, and_true] at h
      rw [h] at hc; exact hc
    · simp at h
  · simp at h
theorem len2 {α : Type} {l : List α} (h : l.length = 2) : ∃ a b, l = [a, b] := by
  match l, h with
  | [a, b], _ => exact ⟨a, b, rfl⟩
theorem len3 {α : Type} {l : List α} (h : l.length = 3) : ∃ a b c, l = [a, b, c] := by
  match l, h with
  | [a, b, c], _ => exact ⟨a, b, c, rfl⟩
/-- Which kinds there are, and what they are made of again. -/
theorem opens_plain {t : List UInt8} (h : checkS t = 0) :
    (kindS t = 1 ∧ partsS t = [] ∧ ∃ s, textS t = (s, true) ∧ dataS s = (t, 0)) ∨
    (kindS t = 2 ∧ partsS t = [] ∧ ∃ s, textS t = (s, true) ∧ atomS s = (t, 0)) ∨
    (kindS t = 3 ∧ textS t = ([], false) ∧ madeS (114 :: numL (partsS t).length) (partsS t) = (t, 0)) ∨
    (kindS t = 4 ∧ textS t = ([], false) ∧ ∃ a, partsS t = [a] ∧ madeS [104] [a] = (t, 0)) ∨
    (kindS t = 5 ∧ textS t = ([], false) ∧ ∃ a b, partsS t = [a, b] ∧ madeS [109] [a, b] = (t, 0)) ∨
    (kindS t = 6 ∧ textS t = ([], false) ∧ ∃ a b c, partsS t = [a, b, c] ∧ madeS [115] [a, b, c] = (t, 0)) := by
  obtain ⟨hd, k, tr⟩ := tr_of h
  have hp := tr.parts
  have hm := tr.made
  have hcnt := roots_cnt k
  rw [← hp] at hm hcnt
  have hk : kindS t = kC (t.headD 0) := by unfold kindS; rw [if_pos h]
  have ht := tr.1
  rcases tr.2.1 with ⟨h0, s, hs, rfl⟩ | ⟨h0, s, hs, hn, rfl⟩ | ⟨h32, rfl⟩ | ⟨h1, rfl⟩ | ⟨h1, rfl⟩ | ⟨h1, rfl⟩
  · have := cnt0 h0
    subst this
    simp only [encF, List.append_nil] at ht
    have hk1 : kindS t = 1 := by rw [hk, ht]; rfl
    refine .inl ⟨hk1, by rw [hp]; rfl, s, ?_, ?_⟩
    · unfold textS
      rw [if_pos (.inl hk1), ht, List.drop_succ_cons, List.drop_zero]
      have := readText_of s 1024 hs (by omega) []
      rw [List.append_nil] at this
      rw [this]
    · unfold dataS; rw [if_neg (by omega), ht]
  · have := cnt0 h0
    subst this
    simp only [encF, List.append_nil] at ht
    have hk1 : kindS t = 2 := by rw [hk, ht]; rfl
    refine .inr (.inl ⟨hk1, by rw [hp]; rfl, s, ?_, ?_⟩)
    · unfold textS
      rw [if_pos (.inr hk1), ht, List.drop_succ_cons, List.drop_zero]
      have := readText_of s 1024 (by omega) (by omega) []
      rw [List.append_nil] at this
      rw [this]
    · unfold atomS; rw [if_neg (by omega), if_pos hn, ht]
  · have hk1 : kindS t = 3 := by rw [hk, ht]; rfl
    refine .inr (.inr (.inl ⟨hk1, by unfold textS; rw [if_neg (by omega)], ?_⟩))
    rw [hcnt]; exact hm
  · have hk1 : kindS t = 4 := by rw [hk, ht]; rfl
    refine .inr (.inr (.inr (.inl ⟨hk1, by unfold textS; rw [if_neg (by omega)], ?_⟩)))
    rw [h1] at hcnt
    obtain ⟨a, ha⟩ := List.length_eq_one_iff.1 hcnt
    exact ⟨a, ha, by rw [← ha]; exact hm⟩
  · have hk1 : kindS t = 5 := by rw [hk, ht]; rfl
    refine .inr (.inr (.inr (.inr (.inl ⟨hk1, by unfold textS; rw [if_neg (by omega)], ?_⟩))))
    rw [h1] at hcnt
    obtain ⟨a, b, ha⟩ := len2 hcnt
    exact ⟨a, b, ha, by rw [← ha]; exact hm⟩
  · have hk1 : kindS t = 6 := by rw [hk, ht]; rfl
    refine .inr (.inr (.inr (.inr (.inr ⟨hk1, by unfold textS; rw [if_neg (by omega)], ?_⟩))))
    rw [h1] at hcnt
    obtain ⟨a, b, c, ha⟩ := len3 hcnt
    exact ⟨a, b, c, ha, by rw [← ha]; exact hm⟩
end Go.Proofs.Yticoollhaachfaa
