/-
  term.Kind, Text, Parts (walks). term.Parts (walk). Terms as trees: what stands side by side, each with its parts (plain). What a term is made of, and what is made of terms (plain).
-/
import Derived.Test.YtpcilobbohokcaaPkpB4
import Derived.Test.YtpcilobbohokcaaPkpB3
set_option linter.unusedSimpArgs false
set_option linter.unusedVariables false
namespace Go.Proofs.Ytpcilobbohokcaa
open Go Go.Wk Go.RowKit
attribute [local irreducible] go Hold
open Go.Lib
/-- What stands at the places of depth 2. -/
def cutS (S : List UInt8) (p : PL) : List UInt8 := (S.drop p.1).take (p.2.1 - p.1)
def pS (S : List UInt8) (l : List PL) : List (List UInt8) := (l.filter fun p => decide (p.2.2 = 2)).map (cutS S)
def partsS (s : List UInt8) : List (List UInt8) := pS s (walkS s 16 1 0).2.2
end Go.Proofs.Ytpcilobbohokcaa
set_option linter.unusedSimpArgs false
set_option linter.unusedVariables false
namespace Go.Proofs.Ytpcilobbohokcaa
open Go Go.Wk Go.RowKit
attribute [local irreducible] go Hold
open Go.Lib
theorem pS_snoc (S : List UInt8) (l : List PL) (p : PL) : pS S (l ++ [p]) = if p.2.2 = 2 then pS S l ++ [cutS S p] else pS S l := by
  unfold pS; rw [List.filter_append]
  by_cases h : p.2.2 = 2 <;> simp [h]
/-- What a walk has left that tells its places to Parts. -/
def TellP (S : List UInt8) (w0 : World) (l : List PL) (w' : World) : Prop :=
  ∃ sv, w'.heap[w0.heap.size]? = some (.cells #[.string ⟨S.toArray⟩] 9 (0, 0)) ∧ w'.heap[w0.heap.size + 1]? = some (.cells #[sv] 25 (0, 0)) ∧
    w'.ownsRow (w0.heap.size + 2) 9 1 sv (pS S l).length ((pS S l).map strV) ∧ Mod [] w0 w' ∧ w0.heap.size + 2 ≤ w'.heap.size
theorem TellP.mod {S : List UInt8} {w0 : World} {l : List PL} {w w' : World} (h : TellP S w0 l w) (hM : Mod [] w w') : TellP S w0 l w' := by
  obtain ⟨sv, h1, h2, h3, h4, h5⟩ := h
  exact ⟨sv, hM.get h1 (by simp), hM.get h2 (by simp), ownsRow_mod h3 hM (by simp), h4.trans hM (by simp), by have := hM.size; omega⟩
end Go.Proofs.Ytpcilobbohokcaa
set_option linter.unusedSimpArgs false
set_option linter.unusedVariables false
namespace Go.Proofs.Ytpcilobbohokcaa
open Go Go.Wk Go.RowKit
attribute [local irreducible] go Hold
/-- Terms side by side: the head of the first one, its parts, the others. -/
inductive Fr where
  | nil
  | cons (h : List UInt8) (k r : Fr)
def encF : Fr → List UInt8
  | .nil => []
  | .cons h k r => h ++ encF k ++ encF r
def cntF : Fr → Nat
  | .nil => 0
  | .cons _ _ r => cntF r + 1
def hgtF : Fr → Nat
  | .nil => 0
  | .cons _ k r => max (hgtF k + 1) (hgtF r)
def okF : Fr → Prop
  | .nil => True
  | .cons h k r => Hd h (cntF k) ∧ okF k ∧ okF r
/-- Places, as they end; as they begin. -/
def endF : Fr → Nat → Nat → List PL
  | .nil, _, _ => []
  | .cons h k r, p, d => endF k (p + h.length) (d + 1) ++ (p, p + h.length + (encF k).length, d) :: endF r (p + h.length + (encF k).length) d
theorem walk_of (S : List UInt8) : ∀ (F : Fr) (f d p : Nat), okF F → hgtF F ≤ f → (∃ rest, S.drop p = encF F ++ rest) → kidsW (walkS S f d) (cntF F) p = (p + (encF F).length, 0, endF F p d)
  | .nil, f, d, p, _, _, _ => by simp [kidsW, cntF, encF, endF]
  | .cons h k r, f, d, p, hok, hh, ⟨rest, hr⟩ => by
    obtain ⟨h1, h2, h3⟩ := hok
    simp only [hgtF] at hh
    obtain ⟨f, rfl⟩ : ∃ g, f = g + 1 := ⟨f - 1, by omega⟩
    simp only [encF, List.append_assoc] at hr
    have hfr : frontS (S.drop p) = (h.length, cntF k, 0) := by rw [hr]; exact front_of h1 _
    have hk := walk_of S k f (d + 1) (p + h.length) h2 (by omega) ⟨encF r ++ rest, by rw [← List.drop_drop, hr, List.drop_left]⟩
    have hw : walkS S (f + 1) d p = (p + h.length + (encF k).length, 0, endF k (p + h.length) (d + 1) ++ [(p, p + h.length + (encF k).length, d)]) := by
      simp only [walkS, hfr, if_true, hk]
    have hrr := walk_of S r (f + 1) d (p + h.length + (encF k).length) h3 (by omega) ⟨rest, by rw [Nat.add_assoc, ← List.drop_drop, hr, ← List.append_assoc, ← List.append_assoc, List.append_assoc, List.drop_left' (by rw [List.length_append])]⟩
    simp only [cntF, kidsW, hw, if_true, hrr, encF, endF, List.length_append]
    refine Prod.ext (by simp only; omega) (Prod.ext rfl ?_)
    simp
/-- A text that is a term, as a tree. -/
def Tr (S h : List UInt8) (k : Fr) : Prop := S = h ++ encF k ∧ Hd h (cntF k) ∧ okF k ∧ hgtF k ≤ 15 ∧ S.length ≤ 16384
theorem Tr.walk {S h : List UInt8} {k : Fr} (t : Tr S h k) : walkS S 16 1 0 = (S.length, 0, endF k h.length 2 ++ [(0, S.length, 1)]) := by
  obtain ⟨rfl, t1, t2, t3, t4⟩ := t
  have := walk_of (h ++ encF k) (.cons h k .nil) 16 1 0 ⟨t1, t2, trivial⟩ (by simp only [hgtF]; omega) ⟨[], by simp [encF]⟩
  simp only [cntF, kidsW, encF, endF, List.append_nil] at this
  by_cases h0 : (walkS (h ++ encF k) 16 1 0).2.1 = 0
  · rw [if_pos h0] at this
    simp only [Prod.mk.injEq, Nat.zero_add, List.append_nil] at this
    refine Prod.ext (by rw [this.1]) (Prod.ext h0 ?_)
    rw [this.2.2]
    simp
  · rw [if_neg h0] at this
    simp only [Prod.mk.injEq] at this
    exact absurd this.2.1 h0
theorem Tr.ok {S h : List UInt8} {k : Fr} (t : Tr S h k) : checkS S = 0 := by
  unfold checkS readS
  rw [t.walk]
  have h : ¬ 16384 < S.length := by have := t.2.2.2.2; omega
  simp [h]
end Go.Proofs.Ytpcilobbohokcaa
set_option linter.unusedSimpArgs false
set_option linter.unusedVariables false
namespace Go.Proofs.Ytpcilobbohokcaa
open Go Go.Wk Go.RowKit
attribute [local irreducible] go Hold
def rootsF : Fr → List (List UInt8)
  | .nil => []
  | .cons h k r => (h ++ encF k) :: rootsF r
theorem end_deep : ∀ (F : Fr) (p d' d : Nat), d < d' → (endF F p d').filter (fun q => decide (q.2.2 = d)) = []
  | .nil, _, _, _, _ => rfl
  | .cons h k r, p, d', d, hd => by
    simp only [endF, List.filter_append, List.filter_cons]
    rw [end_deep k _ (d' + 1) d (by omega), end_deep r _ d' d hd]
    rw [if_neg (by simp; omega)]
    rfl
theorem cut_of {S x rest : List UInt8} {p q d : Nat} (h : S.drop p = x ++ rest) (hq : q = p + x.length) : cutS S (p, q, d) = x := by
  unfold cutS
  simp only
  rw [h, hq, Nat.add_sub_cancel_left, List.take_left']
  rfl
theorem end_roots (S : List UInt8) : ∀ (F : Fr) (p : Nat), (∃ rest, S.drop p = encF F ++ rest) → pS S (endF F p 2) = rootsF F
  | .nil, p, _ => rfl
  | .cons h k r, p, ⟨rest, hr⟩ => by
    simp only [encF, List.append_assoc] at hr
    have h1 := end_deep k (p + h.length) 3 2 (by omega)
    have h2 := end_roots S r (p + h.length + (encF k).length) ⟨rest, by rw [Nat.add_assoc, ← List.drop_drop, hr, ← List.append_assoc, List.drop_left' (by rw [List.length_append])]⟩
    unfold pS at h2 ⊢
    simp only [endF, List.filter_append, List.filter_cons]
    rw [h1, if_pos (by simp), List.nil_append, List.map_cons, h2, rootsF, cut_of (x := h ++ encF k) (rest := encF r ++ rest) (by rw [hr]; simp) (by rw [List.length_append]; omega)]
theorem Tr.parts {S h : List UInt8} {k : Fr} (t : Tr S h k) : partsS S = rootsF k := by
  unfold partsS
  rw [t.walk]
  simp only
  rw [pS_snoc, if_neg (by simp), end_roots S k h.length ⟨[], by rw [t.1, List.drop_left]; simp⟩]
theorem Tr.pos {S h : List UInt8} {k : Fr} (t : Tr S h k) : 1 ≤ S.length := by
  rw [t.1, List.length_append]; have := t.2.1.pos; omega
theorem len3 {α : Type} {l : List α} (h : l.length = 3) : ∃ a b c, l = [a, b, c] := by
  match l, h with
  | [a, b, c], _ => exact ⟨a, b, c, rfl⟩
end Go.Proofs.Ytpcilobbohokcaa
