/-
  The places of a term as its tree has them; swapping (plain).
-/
import Derived.Test.YtfobkimmpiahjaaTre3
import Derived.Test.YtfobkimmpiahjaaSwp1
set_option linter.unusedSimpArgs false
set_option linter.unusedVariables false
namespace Go.Proofs.Ytfobkimmpiahjaa
open Go Go.Wk Go.RowKit
attribute [local irreducible] go Hold
abbrev z3 : PL := (0, 0, 0)
def segF : Fr → Nat → Nat → List PL
  | .nil, _, _ => []
  | .cons h k r, p, d => (p, p + h.length + (encF k).length, d) :: (List.replicate (h.length - 1) z3 ++ segF k (p + h.length) (d + 1)) ++ segF r (p + h.length + (encF k).length) d
theorem seg_len : ∀ (F : Fr) (p d : Nat), okF F → (segF F p d).length = (encF F).length
  | .nil, _, _, _ => rfl
  | .cons h k r, p, d, ⟨h1, h2, h3⟩ => by
    have := h1.pos
    simp only [segF, encF, List.length_append, List.length_cons, List.length_replicate, seg_len k _ _ h2, seg_len r _ _ h3]
    omega
theorem fold_seg : ∀ (F : Fr) (p d : Nat) (A B : List PL), okF F → A.length = p →
    (endF F p d).foldl (fun at' q => at'.set q.1 q) (A ++ (List.replicate (encF F).length z3 ++ B)) = A ++ (segF F p d ++ B)
  | .nil, p, d, A, B, _, _ => by simp [endF, segF, encF]
  | .cons h k r, p, d, A, B, ⟨h1, h2, h3⟩, hA => by
    have hp := h1.pos
    simp only [endF, List.foldl_append, List.foldl_cons, encF, List.length_append, segF]
    have e1 : A ++ (List.replicate (h.length + (encF k).length + (encF r).length) z3 ++ B) = (A ++ List.replicate h.length z3) ++ (List.replicate (encF k).length z3 ++ (List.replicate (encF r).length z3 ++ B)) := by
      rw [← List.replicate_append_replicate, ← List.replicate_append_replicate]; simp only [List.append_assoc]
    rw [e1, fold_seg k (p + h.length) (d + 1) (A ++ List.replicate h.length z3) (List.replicate (encF r).length z3 ++ B) h2 (by rw [List.length_append, List.length_replicate, hA])]
    have e2 : List.replicate h.length z3 = z3 :: List.replicate (h.length - 1) z3 := by
      obtain ⟨n, hn⟩ : ∃ n, h.length = n + 1 := ⟨h.length - 1, by omega⟩
      rw [hn]; rfl
    have e3 : ((A ++ List.replicate h.length z3) ++ (segF k (p + h.length) (d + 1) ++ (List.replicate (encF r).length z3 ++ B))).set p (p, p + h.length + (encF k).length, d) =
        (A ++ (p, p + h.length + (encF k).length, d) :: (List.replicate (h.length - 1) z3 ++ segF k (p + h.length) (d + 1))) ++ (List.replicate (encF r).length z3 ++ B) := by
      rw [e2, List.append_assoc, ← hA, List.set_append_right _ _ (Nat.le_refl _), Nat.sub_self]
      simp
    rw [e3, fold_seg r (p + h.length + (encF k).length) d _ B h3 (by
      have := seg_len k (p + h.length) (d + 1) h2
      simp only [List.length_append, List.length_cons, List.length_replicate, this, hA]; omega)]
    simp
theorem seg_pre : ∀ (F : Fr) (p d : Nat), 0 < d → (segF F p d).filter (fun q => decide (0 < q.2.2)) = preF F p d
  | .nil, _, _, _ => rfl
  | .cons h k r, p, d, hd => by
    have hr : ∀ n, (List.replicate n z3).filter (fun q => decide (0 < q.2.2)) = [] := by
      intro n; induction n with
      | zero => rfl
      | succ n ih => rw [List.replicate_succ, List.filter_cons, ih]; rfl
    simp only [segF, preF, List.cons_append, List.filter_cons, List.filter_append]
    rw [if_pos (by simp; omega), hr, seg_pre k _ _ (by omega), seg_pre r _ _ hd]
    simp
theorem Tr.places {S h : List UInt8} {k : Fr} (t : Tr S h k) : placesS S = preF (.cons h k .nil) 0 1 := by
  have hok : okF (.cons h k .nil) := ⟨t.2.1, t.2.2.1, trivial⟩
  have hl : S.length = (encF (.cons h k .nil)).length := by rw [t.1]; simp [encF]
  have htold : (walkS S 16 1 0).2.2 = endF (.cons h k .nil) 0 1 := by
    rw [t.walk]
    simp only [endF]
    rw [show S.length = 0 + h.length + (encF k).length from by rw [t.1, List.length_append]; omega, Nat.zero_add]
  unfold placesS atS
  rw [htold, hl]
  have := fold_seg (.cons h k .nil) 0 1 [] [] hok rfl
  simp only [List.nil_append, List.append_nil] at this
  rw [this, seg_pre _ _ _ (by omega)]
/-- What stands at the places. -/
def subsF : Fr → List (List UInt8)
  | .nil => []
  | .cons h k r => (h ++ encF k) :: (subsF k ++ subsF r)
theorem pre_subs (S : List UInt8) : ∀ (F : Fr) (p d : Nat), (∃ rest, S.drop p = encF F ++ rest) → (preF F p d).map (cutS S) = subsF F
  | .nil, _, _, _ => rfl
  | .cons h k r, p, d, ⟨rest, hr⟩ => by
    simp only [encF, List.append_assoc] at hr
    simp only [preF, subsF, List.map_cons, List.map_append]
    rw [cut_of (x := h ++ encF k) (rest := encF r ++ rest) (by rw [hr]; simp) (by rw [List.length_append]; omega),
      pre_subs S k (p + h.length) (d + 1) ⟨encF r ++ rest, by rw [← List.drop_drop, hr, List.drop_left]⟩,
      pre_subs S r (p + h.length + (encF k).length) d ⟨rest, by rw [Nat.add_assoc, ← List.drop_drop, hr, ← List.append_assoc, List.drop_left' (by rw [List.length_append])]⟩]
theorem Tr.subs {S h : List UInt8} {k : Fr} (t : Tr S h k) : (placesS S).map (cutS S) = subsF (.cons h k .nil) := by
  rw [t.places]
  exact pre_subs S _ 0 1 ⟨[], by rw [List.drop_zero, t.1]; simp [encF]⟩
theorem Tr.has {S h : List UInt8} {k : Fr} (t : Tr S h k) (T : List UInt8) : inS' S T = decide (T ∈ subsF (.cons h k .nil)) := by
  rw [← t.subs]
  unfold inS'
  rw [Bool.eq_iff_iff]
  simp only [List.any_eq_true, decide_eq_true_eq, List.mem_map]
/-- One tree in the place of another one. -/
def swF (f hT : List UInt8) (kT : Fr) : Fr → Fr
  | .nil => .nil
  | .cons h k r => if h ++ encF k = f then .cons hT kT (swF f hT kT r) else .cons h (swF f hT kT k) (swF f hT kT r)
theorem sw_cnt (f hT : List UInt8) (kT : Fr) : ∀ F, cntF (swF f hT kT F) = cntF F
  | .nil => rfl
  | .cons h k r => by simp only [swF]; split <;> simp only [cntF, sw_cnt f hT kT r]
theorem sw_ok {f hT : List UInt8} {kT : Fr} (h1 : Hd hT (cntF kT)) (h2 : okF kT) : ∀ F, okF F → okF (swF f hT kT F)
  | .nil, _ => trivial
  | .cons h k r, ⟨a, b, c⟩ => by
    simp only [swF]; split
    · exact ⟨h1, h2, sw_ok h1 h2 r c⟩
    · exact ⟨by rw [sw_cnt]; exact a, sw_ok h1 h2 k b, sw_ok h1 h2 r c⟩
theorem text_ext {S x rest : List UInt8} {p d : Nat} (hd : d ≤ p) (h : S.drop p = x ++ rest) (hx : x ≠ []) : (S.take (p + x.length)).drop d = (S.take p).drop d ++ x := by
  have hp : p < S.length := by
    rcases Nat.lt_or_ge p S.length with h1 | h1
    · exact h1
    · rw [List.drop_eq_nil_of_le h1] at h
      have := congrArg List.length h
      rw [List.length_append] at this
      exact absurd (List.eq_nil_of_length_eq_zero (by simp at this; omega)) hx
  have e : S.take (p + x.length) = S.take p ++ x := by
    rw [List.take_add, h, List.take_left' rfl]
  rw [e, List.drop_append_of_le_length (by rw [List.length_take]; omega)]
theorem swp_skip (S f T : List UInt8) : ∀ (F : Fr) (p d dn : Nat) (o : List UInt8) (L : List PL), okF F → p + (encF F).length ≤ dn → swp S f T (preF F p d ++ L) dn o = swp S f T L dn o
  | .nil, _, _, _, _, _, _, _ => rfl
  | .cons h k r, p, d, dn, o, L, ⟨h1, h2, h3⟩, hle => by
    have := h1.pos
    simp only [encF, List.length_append] at hle
    simp only [preF, List.cons_append, List.append_assoc, swp]
    rw [if_pos (.inl (by omega)), swp_skip S f T k _ _ dn o _ h2 (by omega), swp_skip S f T r _ _ dn o _ h3 (by omega)]
theorem swp_pre (S f hT : List UInt8) (kT : Fr) : ∀ (F : Fr) (p d dn : Nat) (o : List UInt8) (L : List PL), okF F → dn ≤ p → (∃ rest, S.drop p = encF F ++ rest) →
    (∃ dn' o', swp S f (hT ++ encF kT) (preF F p d ++ L) dn o = swp S f (hT ++ encF kT) L dn' o' ∧ dn' ≤ p + (encF F).length ∧ o' ++ (S.take (p + (encF F).length)).drop dn' = o ++ (S.take p).drop dn ++ encF (swF f hT kT F)) ∨
    (swp S f (hT ++ encF kT) (preF F p d ++ L) dn o = none ∧ 16384 < (o ++ (S.take p).drop dn ++ encF (swF f hT kT F)).length)
  | .nil, p, d, dn, o, L, _, hd, _ => .inl ⟨dn, o, rfl, by simpa [encF] using hd, by simp [encF, swF]⟩
  | .cons h k r, p, d, dn, o, L, ⟨h1, h2, h3⟩, hd, ⟨rest, hr⟩ => by
    have hp := h1.pos
    have hne : h ≠ [] := by intro e; subst e; simp at hp
    simp only [encF, List.append_assoc] at hr
    have hcut : cutS S (p, p + h.length + (encF k).length, d) = h ++ encF k := cut_of (x := h ++ encF k) (rest := encF r ++ rest) (by rw [hr]; simp) (by rw [List.length_append]; omega)
    have hr1 : S.drop (p + h.length + (encF k).length) = encF r ++ rest := by rw [Nat.add_assoc, ← List.drop_drop, hr, ← List.append_assoc, List.drop_left' (by rw [List.length_append])]
    have hr2 : S.drop (p + h.length) = encF k ++ (encF r ++ rest) := by rw [← List.drop_drop, hr, List.drop_left]
    have hh := text_ext hd hr hne
    have hz : List.drop (p + h.length + (encF k).length) (List.take (p + h.length + (encF k).length) S) = [] := List.drop_eq_nil_of_le (by rw [List.length_take]; omega)
    have hlen : p + (encF (.cons h k r)).length = p + h.length + (encF k).length + (encF r).length := by simp only [encF, List.length_append]; omega
    rw [hlen]
    simp only [preF, List.cons_append, List.append_assoc, swp, hcut]
    by_cases hm : h ++ encF k = f
    · rw [if_neg (by rintro (e | e); omega; exact e hm)]
      simp only [swF, if_pos hm, encF]
      by_cases hl : 16384 < (o ++ List.drop dn (List.take p S) ++ (hT ++ encF kT)).length
      · rw [if_pos (by simpa only [List.append_assoc] using hl)]
        refine .inr ⟨rfl, ?_⟩
        simp only [List.length_append] at hl ⊢
        omega
      · rw [if_neg (by simpa only [List.append_assoc] using hl), swp_skip S f _ k _ _ _ _ _ h2 (Nat.le_refl _)]
        rcases swp_pre S f hT kT r (p + h.length + (encF k).length) d (p + h.length + (encF k).length) (o ++ (List.drop dn (List.take p S) ++ (hT ++ encF kT))) L h3 (Nat.le_refl _) ⟨rest, hr1⟩ with ⟨dn', o', e1, e2, e3⟩ | ⟨e1, e2⟩
        · refine .inl ⟨dn', o', e1, e2, ?_⟩
          rw [e3, hz]
          simp only [List.append_assoc, List.nil_append]
        · refine .inr ⟨e1, ?_⟩
          rw [hz] at e2
          simpa only [List.append_assoc, List.nil_append] using e2
    · rw [if_pos (.inr hm)]
      simp only [swF, if_neg hm, encF]
      rcases swp_pre S f hT kT k (p + h.length) (d + 1) dn o (preF r (p + h.length + (encF k).length) d ++ L) h2 (by omega) ⟨_, hr2⟩ with ⟨dn', o', e1, e2, e3⟩ | ⟨e1, e2⟩
      · rw [hh] at e3
        rcases swp_pre S f hT kT r (p + h.length + (encF k).length) d dn' o' L h3 e2 ⟨rest, hr1⟩ with ⟨dn2, o2, g1, g2, g3⟩ | ⟨g1, g2⟩
        · refine .inl ⟨dn2, o2, by rw [e1, g1], g2, ?_⟩
          rw [g3, e3]; simp only [List.append_assoc]
        · refine .inr ⟨by rw [e1, g1], ?_⟩
          rw [e3] at g2
          simpa only [List.append_assoc] using g2
      · refine .inr ⟨e1, ?_⟩
        rw [hh] at e2
        simp only [List.length_append] at e2 ⊢
        omega
theorem swap_eq {S f T h hT : List UInt8} {k kT : Fr} (t : Tr S h k) (tT : Tr T hT kT) (hf : checkS f = 0) :
    swapS S f T = if checkS (encF (swF f hT kT (.cons h k .nil))) = 0 then (encF (swF f hT kT (.cons h k .nil)), 0) else ([], 5) := by
  unfold swapS
  rw [if_pos ⟨t.ok, hf, tT.ok⟩, t.places]
  have hd0 : S.drop 0 = encF (.cons h k .nil) ++ [] := by rw [List.drop_zero, t.1]; simp [encF]
  have hl : S.length = (encF (.cons h k .nil)).length := by rw [t.1]; simp [encF]
  have := swp_pre S f hT kT (.cons h k .nil) 0 1 0 [] [] ⟨t.2.1, t.2.2.1, trivial⟩ (Nat.le_refl _) ⟨[], hd0⟩
  rw [← tT.1, List.append_nil, List.take_zero, List.drop_zero, List.append_nil, List.nil_append, Nat.zero_add, ← hl, List.take_length] at this
  rcases this with ⟨dn, o, e1, e2, e3⟩ | ⟨e1, e2⟩
  · rw [e1]
    simp only [swp, e3]
  · rw [e1]
    simp only
    rw [if_neg (fun hc => by have := (check0 hc).2.2.1; omega)]
end Go.Proofs.Ytfobkimmpiahjaa
