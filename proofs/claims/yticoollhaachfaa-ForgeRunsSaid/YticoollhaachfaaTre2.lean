/-
  Terms as trees: what stands side by side, each with its parts (plain).
-/
import Derived.Test.YticoollhaachfaaTre1
import Derived.Test.YticoollhaachfaaPrt2
set_option linter.unusedSimpArgs false
set_option linter.unusedVariables false
namespace Go.Proofs.Yticoollhaachfaa
open Go Go.Wk Go.RowKit
attribute [local irreducible] go Hold
/-- Terms side by side: the head of the first one, its parts, the others. -/
inductive Fr where
  | nil
  | cons (h : List UInt8) (k r : Fr)
def encF : Fr → List UInt8
  | .nil => []
  | .cons h k r => h ++ encF k ++ encF r
def cntF : Fr → Nat
  | .nil => 0
  | .cons _ _ r => cntF r + 1
def hgtF : Fr → Nat
  | .nil => 0
  | .cons _ k r => max (hgtF k + 1) (hgtF r)
def okF : Fr → Prop
  | .nil => True
  | .cons h k r => Hd h (cntF k) ∧ okF k ∧ okF r
/-- Places, as they end; as they begin. -/
def endF : Fr → Nat → Nat → List PL
  | .nil, _, _ => []
  | .cons h k r, p, d => endF k (p + h.length) (d + 1) ++ (p, p + h.length + (encF k).length, d) :: endF r (p + h.length + (encF k).length) d
def preF : Fr → Nat → Nat → List PL
  | .nil, _, _ => []
  | .cons h k r, p, d => (p, p + h.length + (encF k).length, d) :: (preF k (p + h.length) (d + 1) ++ preF r (p + h.length + (encF k).length) d)
theorem walk_of (S : List UInt8) : ∀ (F : Fr) (f d p : Nat), okF F → hgtF F ≤ f → (∃ rest, S.drop p = encF F ++ rest) → kidsW (walkS S f d) (cntF F) p = (p + (encF F).length, 0, endF F p d)
  | .nil, f, d, p, _, _, _ => by simp [kidsW, cntF, encF, endF]
  | .cons h k r, f, d, p, hok, hh, ⟨rest, hr⟩ => by
    obtain ⟨h1, h2, h3⟩ := hok
    simp only [hgtF] at hh
    obtain ⟨f, rfl⟩ : ∃ g, f = g + 1 := ⟨f - 1, by omega⟩
    simp only [encF, List.append_assoc] at hr
    have hfr : frontS (S.drop p) = (h.length, cntF k, 0) := by rw [hr]; exact front_of h1 _
    have hk := walk_of S k f (d + 1) (p + h.length) h2 (by omega) ⟨encF r ++ rest, by rw [← List.drop_drop, hr, List.drop_left]⟩
    have hw : walkS S (f + 1) d p = (p + h.length + (encF k).length, 0, endF k (p + h.length) (d + 1) ++ [(p, p + h.length + (encF k).length, d)]) := by
      simp only [walkS, hfr, if_true, hk]
    have hrr := walk_of S r (f + 1) d (p + h.length + (encF k).length) h3 (by omega) ⟨rest, by rw [Nat.add_assoc, ← List.drop_drop, hr, ← List.append_assoc, ← List.append_assoc, List.append_assoc, List.drop_left' (by rw [List.length_append])]⟩
    simp only [cntF, kidsW, hw, if_true, hrr, encF, endF, List.length_append]
    refine Prod.ext (by simp only; omega) (Prod.ext rfl ?_)
    simp
theorem walk_is (S : List UInt8) : ∀ (f d : Nat),
    (∀ (n p : Nat), (kidsW (walkS S f d) n p).2.1 = 0 → ∃ F rest, okF F ∧ hgtF F ≤ f ∧ cntF F = n ∧ S.drop p = encF F ++ rest)
  | f, d, 0, p, _ => ⟨.nil, S.drop p, trivial, Nat.zero_le _, rfl, rfl⟩
  | 0, d, n + 1, p, h => by simp [kidsW, walkS] at h
  | f + 1, d, n + 1, p, h => by
    simp only [kidsW] at h
    by_cases h0 : (walkS S (f + 1) d p).2.1 = 0
    · rw [if_pos h0] at h
      have hw := h0
      simp only [walkS] at hw
      by_cases h1 : (frontS (S.drop p)).2.2 = 0
      · rw [if_pos h1] at hw
        by_cases h2 : (kidsW (walkS S f (d + 1)) (frontS (S.drop p)).2.1 (p + (frontS (S.drop p)).1)).2.1 = 0
        · obtain ⟨K, rest, k1, k2, k3, k4⟩ := walk_is S f (d + 1) _ _ h2
          obtain ⟨hd, rest2, e1, e2, e3⟩ := front_is (s := S.drop p) (n := (frontS (S.drop p)).1) (k := (frontS (S.drop p)).2.1) (by rw [← h1])
          rw [← List.drop_drop, e2, e1, List.drop_left] at k4
          have hone := walk_of S (.cons hd K .nil) (f + 1) d p ⟨by rw [k3]; exact e3, k1, trivial⟩ (by simp only [hgtF]; omega) ⟨rest, by rw [e1, k4]; simp [encF]⟩
          simp only [cntF, kidsW] at hone
          rw [if_pos h0] at hone
          simp only [Prod.mk.injEq] at hone
          rw [hone.1] at h
          obtain ⟨R, rest3, r1, r2, r3, r4⟩ := walk_is S (f + 1) d n _ h
          refine ⟨.cons hd K R, rest3, ⟨by rw [k3]; exact e3, k1, r1⟩, by simp only [hgtF]; omega, by simp only [cntF]; omega, ?_⟩
          simp only [encF, List.append_nil] at r4 ⊢
          rw [← List.drop_drop, e1, k4, ← List.append_assoc, List.drop_left] at r4
          rw [e1, k4, r4]
          simp
        · rw [if_neg h2] at hw; exact absurd hw h2
      · rw [if_neg h1] at hw; exact absurd hw h1
    · rw [if_neg h0] at h; exact absurd h h0
/-- What stands ahead decides which trees they are. -/
theorem encF_inj : ∀ (F G : Fr) (x y : List UInt8), okF F → okF G → cntF F = cntF G → encF F ++ x = encF G ++ y → F = G ∧ x = y
  | .nil, .nil, x, y, _, _, _, e => ⟨rfl, by simpa [encF] using e⟩
  | .nil, .cons _ _ _, _, _, _, _, h, _ => by simp [cntF] at h
  | .cons _ _ _, .nil, _, _, _, _, h, _ => by simp [cntF] at h
  | .cons h k r, .cons h' k' r', x, y, ⟨a1, a2, a3⟩, ⟨b1, b2, b3⟩, hc, e => by
    simp only [encF, List.append_assoc] at e
    obtain ⟨rfl, e1, hk⟩ := a1.eq b1 e
    obtain ⟨rfl, e2⟩ := encF_inj k k' _ _ a2 b2 hk e1
    obtain ⟨rfl, e3⟩ := encF_inj r r' x y a3 b3 (by simpa [cntF] using hc) e2
    exact ⟨rfl, e3⟩
/-- A text that is a term, as a tree. -/
def Tr (S h : List UInt8) (k : Fr) : Prop := S = h ++ encF k ∧ Hd h (cntF k) ∧ okF k ∧ hgtF k ≤ 15 ∧ S.length ≤ 16384
theorem Tr.walk {S h : List UInt8} {k : Fr} (t : Tr S h k) : walkS S 16 1 0 = (S.length, 0, endF k h.length 2 ++ [(0, S.length, 1)]) := by
  obtain ⟨rfl, t1, t2, t3, t4⟩ := t
  have := walk_of (h ++ encF k) (.cons h k .nil) 16 1 0 ⟨t1, t2, trivial⟩ (by simp only [hgtF]; omega) ⟨[], by simp [encF]⟩
  simp only [cntF, kidsW, encF, endF, List.append_nil] at this
  by_cases h0 : (walkS (h ++ encF k) 16 1 0).2.1 = 0
  · rw [if_pos h0] at this
    simp only [Prod.mk.injEq, Nat.zero_add, List.append_nil] at this
    refine Prod.ext (by rw [this.1]) (Prod.ext h0 ?_)
    rw [this.2.2]
    simp
  · rw [if_neg h0] at this
    simp only [Prod.mk.injEq] at this
    exact absurd this.2.1 h0
theorem Tr.ok {S h : List UInt8} {k : Fr} (t : Tr S h k) : checkS S = 0 := by
  unfold checkS readS
  rw [t.walk]
  have h : ¬ 16384 < S.length := by have := t.2.2.2.2; omega
  simp [h]
theorem tr_of {S : List UInt8} (hS : checkS S = 0) : ∃ h k, Tr S h k := by
  unfold checkS at hS
  have hr : (readS S).2 = 0 := by
    by_cases h0 : (readS S).2 = 0
    · exact h0
    · rw [if_neg h0] at hS; exact absurd hS h0
  rw [if_pos hr] at hS
  have h2 : (readS S).1 = S.length := by
    by_cases h0 : (readS S).1 = S.length
    · exact h0
    · rw [if_neg h0] at hS; exact absurd hS (by decide)
  unfold readS at hr h2
  by_cases hw : (walkS S 16 1 0).2.1 = 0
  · rw [if_pos hw] at hr h2
    by_cases h3 : 16384 < (walkS S 16 1 0).1
    · rw [if_pos h3] at hr; exact absurd hr (by decide)
    · rw [if_neg h3] at h2
      simp only at h2
      obtain ⟨F, rest, f1, f2, f3, f4⟩ := walk_is S 16 1 1 0 (by simp only [kidsW]; rw [if_pos hw])
      cases F with
      | nil => simp [cntF] at f3
      | cons h k r =>
        cases r with
        | cons _ _ _ => simp [cntF] at f3
        | nil =>
          obtain ⟨g1, g2, _⟩ := f1
          have hwk := walk_of S (.cons h k .nil) 16 1 0 ⟨g1, g2, trivial⟩ f2 ⟨rest, f4⟩
          simp only [cntF, kidsW] at hwk
          rw [if_pos hw] at hwk
          simp only [Prod.mk.injEq] at hwk
          have hl := hwk.1
          rw [h2] at hl
          simp only [List.drop_zero] at f4
          have hr0 : rest = [] := by
            have := congrArg List.length f4
            rw [List.length_append] at this
            exact List.eq_nil_of_length_eq_zero (by omega)
          subst hr0
          refine ⟨h, k, by rw [f4]; simp [encF], g1, g2, by simp only [hgtF] at f2; omega, by omega⟩
  · rw [if_neg hw] at hr; exact absurd hr hw
theorem Tr.eq {S h h' : List UInt8} {k k' : Fr} (t : Tr S h k) (t' : Tr S h' k') : h = h' ∧ k = k' := by
  obtain ⟨e, a1, a2, _, _⟩ := t
  obtain ⟨e', b1, b2, _, _⟩ := t'
  obtain ⟨rfl, e2, hk⟩ := a1.eq b1 (e.symm.trans e')
  obtain ⟨rfl, _⟩ := encF_inj k k' [] [] a2 b2 hk (by simpa using e2)
  exact ⟨rfl, rfl⟩
end Go.Proofs.Yticoollhaachfaa
