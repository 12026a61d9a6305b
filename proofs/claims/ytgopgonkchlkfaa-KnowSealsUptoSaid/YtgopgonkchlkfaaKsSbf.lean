/-
  The places of a term as its tree has them (plain).
-/
import Derived.Test.YtgopgonkchlkfaaKsB5
import Derived.Test.YtgopgonkchlkfaaKsHas1
set_option linter.unusedSimpArgs false
set_option linter.unusedVariables false
set_option maxRecDepth 20000
namespace Go.Proofs.Ytgopgonkchlkfaa
open Go Go.Wk Go.RowKit
attribute [local irreducible] go Hold
abbrev z3 : PL := (0, 0, 0)
def segF : Fr → Nat → Nat → List PL
  | .nil, _, _ => []
  | .cons h k r, p, d => (p, p + h.length + (encF k).length, d) :: (List.replicate (h.length - 1) z3 ++ segF k (p + h.length) (d + 1)) ++ segF r (p + h.length + (encF k).length) d
theorem seg_len : ∀ (F : Fr) (p d : Nat), okF F → (segF F p d).length = (encF F).length
  | .nil, _, _, _ => rfl
  | .cons h k r, p, d, ⟨h1, h2, h3⟩ => by
    have := h1.pos
    simp only [segF, encF, List.length_append, List.length_cons, List.length_replicate, seg_len k _ _ h2, seg_len r _ _ h3]
    omega
theorem fold_seg : ∀ (F : Fr) (p d : Nat) (A B : List PL), okF F → A.length = p →
    (endF F p d).foldl (fun at' q => at'.set q.1 q) (A ++ (List.replicate (encF F).length z3 ++ B)) = A ++ (segF F p d ++ B)
  | .nil, p, d, A, B, _, _ => by simp [endF, segF, encF]
  | .cons h k r, p, d, A, B, ⟨h1, h2, h3⟩, hA => by
    have hp := h1.pos
    simp only [endF, List.foldl_append, List.foldl_cons, encF, List.length_append, segF]
    have e1 : A ++ (List.replicate (h.length + (encF k).length + (encF r).length) z3 ++ B) = (A ++ List.replicate h.length z3) ++ (List.replicate (encF k).length z3 ++ (List.replicate (encF r).length z3 ++ B)) := by
      rw [← List.replicate_append_replicate, ← List.replicate_append_replicate]; simp only [List.append_assoc]
    rw [e1, fold_seg k (p + h.length) (d + 1) (A ++ List.replicate h.length z3) (List.replicate (encF r).length z3 ++ B) h2 (by rw [List.length_append, List.length_replicate, hA])]
    have e2 : List.replicate h.length z3 = z3 :: List.replicate (h.length - 1) z3 := by
      obtain ⟨n, hn⟩ : ∃ n, h.length = n + 1 := ⟨h.length - 1, by omega⟩
      rw [hn]; rfl
    have e3 : ((A ++ List.replicate h.length z3) ++ (segF k (p + h.length) (d + 1) ++ (List.replicate (encF r).length z3 ++ B))).set p (p, p + h.length + (encF k).length, d) =
        (A ++ (p, p + h.length + (encF k).length, d) :: (List.replicate (h.length - 1) z3 ++ segF k (p + h.length) (d + 1))) ++ (List.replicate (encF r).length z3 ++ B) := by
      rw [e2, List.append_assoc, ← hA, List.set_append_right _ _ (Nat.le_refl _), Nat.sub_self]
      simp
    rw [e3, fold_seg r (p + h.length + (encF k).length) d _ B h3 (by
      have := seg_len k (p + h.length) (d + 1) h2
      simp only [List.length_append, List.length_cons, List.length_replicate, this, hA]; omega)]
    simp
theorem seg_pre : ∀ (F : Fr) (p d : Nat), 0 < d → (segF F p d).filter (fun q => decide (0 < q.2.2)) = preF F p d
  | .nil, _, _, _ => rfl
  | .cons h k r, p, d, hd => by
    have hr : ∀ n, (List.replicate n z3).filter (fun q => decide (0 < q.2.2)) = [] := by
      intro n; induction n with
      | zero => rfl
      | succ n ih => rw [List.replicate_succ, List.filter_cons, ih]; rfl
    simp only [segF, preF, List.cons_append, List.filter_cons, List.filter_append]
    rw [if_pos (by simp; omega), hr, seg_pre k _ _ (by omega), seg_pre r _ _ hd]
    simp
theorem Tr.places {S h : List UInt8} {k : Fr} (t : Tr S h k) : placesS S = preF (.cons h k .nil) 0 1 := by
  have hok : okF (.cons h k .nil) := ⟨t.2.1, t.2.2.1, trivial⟩
  have hl : S.length = (encF (.cons h k .nil)).length := by rw [t.1]; simp [encF]
  have htold : (walkS S 16 1 0).2.2 = endF (.cons h k .nil) 0 1 := by
    rw [t.walk]
    simp only [endF]
    rw [show S.length = 0 + h.length + (encF k).length from by rw [t.1, List.length_append]; omega, Nat.zero_add]
  unfold placesS atS
  rw [htold, hl]
  have := fold_seg (.cons h k .nil) 0 1 [] [] hok rfl
  simp only [List.nil_append, List.append_nil] at this
  rw [this, seg_pre _ _ _ (by omega)]
/-- What stands at the places. -/
def subsF : Fr → List (List UInt8)
  | .nil => []
  | .cons h k r => (h ++ encF k) :: (subsF k ++ subsF r)
theorem pre_subs (S : List UInt8) : ∀ (F : Fr) (p d : Nat), (∃ rest, S.drop p = encF F ++ rest) → (preF F p d).map (cutS S) = subsF F
  | .nil, _, _, _ => rfl
  | .cons h k r, p, d, ⟨rest, hr⟩ => by
    simp only [encF, List.append_assoc] at hr
    simp only [preF, subsF, List.map_cons, List.map_append]
    rw [cut_of (x := h ++ encF k) (rest := encF r ++ rest) (by rw [hr]; simp) (by rw [List.length_append]; omega),
      pre_subs S k (p + h.length) (d + 1) ⟨encF r ++ rest, by rw [← List.drop_drop, hr, List.drop_left]⟩,
      pre_subs S r (p + h.length + (encF k).length) d ⟨rest, by rw [Nat.add_assoc, ← List.drop_drop, hr, ← List.append_assoc, List.drop_left' (by rw [List.length_append])]⟩]
theorem Tr.subs {S h : List UInt8} {k : Fr} (t : Tr S h k) : (placesS S).map (cutS S) = subsF (.cons h k .nil) := by
  rw [t.places]
  exact pre_subs S _ 0 1 ⟨[], by rw [List.drop_zero, t.1]; simp [encF]⟩
theorem Tr.has {S h : List UInt8} {k : Fr} (t : Tr S h k) (T : List UInt8) : inS' S T = decide (T ∈ subsF (.cons h k .nil)) := by
  rw [← t.subs]
  unfold inS'
  rw [Bool.eq_iff_iff]
  simp only [List.any_eq_true, decide_eq_true_eq, List.mem_map]
/-- What stands at the places of a term. -/
def subT (S : List UInt8) : List (List UInt8) := (placesS S).map (cutS S)
theorem subs_roots : ∀ (F : Fr), okF F → hgtF F ≤ 16 → (encF F).length ≤ 16384 → subsF F = (rootsF F).flatMap subT
  | .nil, _, _, _ => rfl
  | .cons h k r, ⟨h1, h2, h3⟩, hh, hl => by
    simp only [hgtF] at hh
    simp only [encF, List.length_append] at hl
    have t : Tr (h ++ encF k) h k := ⟨rfl, h1, h2, by omega, by rw [List.length_append]; omega⟩
    have e : subT (h ++ encF k) = (h ++ encF k) :: subsF k := by
      unfold subT
      rw [t.subs]
      simp [subsF]
    rw [subsF, rootsF, List.flatMap_cons, e, subs_roots r h3 (by omega) (by omega)]
    rfl
theorem subT_parts {S : List UInt8} (h : checkS S = 0) : subT S = S :: (partsS S).flatMap subT := by
  obtain ⟨hd, k, tr⟩ := tr_of h
  have hl := tr.2.2.2.2
  rw [tr.1, List.length_append] at hl
  have hh := tr.2.2.2.1
  have e := subs_roots k tr.2.2.1 (by omega) (by omega)
  rw [tr.parts, ← e]
  unfold subT
  rw [tr.subs]
  simp only [subsF, List.append_nil]
  rw [← tr.1]
end Go.Proofs.Ytgopgonkchlkfaa
