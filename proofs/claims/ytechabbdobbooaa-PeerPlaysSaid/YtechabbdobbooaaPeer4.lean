/-
  The law PeerOnce (plain): what a peer has taken.
-/
import Derived.Test.YtechabbdobbooaaPeer3
set_option linter.unusedSimpArgs false
set_option linter.unusedVariables false
namespace Go.Proofs.Ytechabbdobbooaa
open Go Go.Wk Go.RowKit
attribute [local irreducible] go Hold
/-- What was taken: from whose life, in which of one's own, which nonce. -/
abbrev Tri := Int × Int × Int
structure PInv (own : Int) (s : PS) (took : List Tri) : Prop where
  o : s.own = own
  own1 : 1 ≤ own
  sent : 0 ≤ s.sent ∧ s.sent ≤ 65535
  known : 1 ≤ s.known ∧ s.known ≤ 255
  win : ∃ ys, WRel s.t s.v ys ∧ ∀ x ∈ took, x.2.1 = own → x.1 ≤ s.known ∧ (x.1 = s.known → x.2.2 ∈ ys)
  low : ∀ x ∈ took, x.2.1 ≤ own
theorem PInv.w {own : Int} {s : PS} {took : List Tri} (h : PInv own s took) : WOk (s.t, s.v) := by
  obtain ⟨ys, h1, _⟩ := h.win; exact ⟨h1.t0, h1.t1, h1.v1⟩
theorem PInv.nil : PInv 1 (newS 1) [] := ⟨rfl, by omega, by simp [newS], by simp [newS], ⟨[], WRel.nil, by simp⟩, by simp⟩
theorem PInv.new {own : Int} {s : PS} {took : List Tri} (h : PInv own s took) : PInv (own + 1) (newS (own + 1)) took :=
  ⟨rfl, by have := h.own1; omega, by simp [newS], by simp [newS], ⟨[], WRel.nil, fun x hx e => by have := h.low x hx; omega⟩, fun x hx => by have := h.low x hx; omega⟩
theorem PInv.hear {own : Int} {s : PS} {took : List Tri} (h : PInv own s took) {a : Int} (he : epochOk a) : PInv own (hearS s a) took := by
  unfold hearS
  split
  · obtain ⟨ys, h1, h2⟩ := h.win
    exact ⟨h.o, h.own1, h.sent, he, ⟨[], WRel.nil, fun x hx e => by
      have := (h2 x hx e).1
      refine ⟨?_, fun e2 => ?_⟩
      · simp only; omega
      · simp only at e2; omega⟩, h.low⟩
  · exact h
theorem PInv.fail {own : Int} {s : PS} {took : List Tri} (h : PInv own s took) {a b n : Int} (hc : takeC s a b n ≠ 0) : PInv own (takeS s a b n) took := by
  unfold takeC at hc; unfold takeS
  split at hc
  · rename_i h1; rw [if_pos h1]; exact h
  · rename_i h1; rw [if_neg h1]
    have h1 : epochOk a ∧ epochOk b ∧ nonceOk n := Decidable.not_not.1 h1
    split at hc
    · rename_i h2; rw [if_pos h2]; exact h
    · rename_i h2; rw [if_neg h2]
      split at hc
      · rename_i h3; rw [if_pos h3]; exact h
      · rename_i h3; rw [if_neg h3]
        have := h.hear h1.1
        unfold winS tk
        rw [if_neg hc]
        exact this
theorem PInv.take {own : Int} {s : PS} {took : List Tri} (h : PInv own s took) {a b n : Int} (hc : takeC s a b n = 0) : (a, b, n) ∉ took ∧ PInv own (takeS s a b n) (took ++ [(a, b, n)]) := by
  unfold takeC at hc; unfold takeS
  split at hc
  · simp at hc
  rename_i h1; rw [if_neg h1]
  have h1 : epochOk a ∧ epochOk b ∧ nonceOk n := Decidable.not_not.1 h1
  split at hc
  · simp at hc
  rename_i h2; rw [if_neg h2]
  have h2 : b = s.own := Decidable.not_not.1 h2
  split at hc
  · simp at hc
  rename_i h3; rw [if_neg h3]
  have hh := h.hear h1.1
  have hk : (hearS s a).known = a := by
    unfold hearS
    split
    · rfl
    · omega
  obtain ⟨ys, g1, g2⟩ := hh.win
  have hm := (g1.may h1.2.2.1 h1.2.2.2).1 hc
  have hb : b = own := h2.trans h.o
  refine ⟨fun hx => ?_, ?_⟩
  · have := g2 _ hx hb
    exact hm.2 (this.2 hk.symm)
  · have e : winS (hearS s a) n = { hearS s a with t := max (hearS s a).t n, v := takeV (hearS s a).t (hearS s a).v n } := by unfold winS tk; rw [if_pos hc]
    rw [e]
    refine ⟨hh.o, hh.own1, hh.sent, hh.known, ⟨ys ++ [n], g1.take hc, fun x hx ho => ?_⟩, fun x hx => ?_⟩
    · rcases List.mem_append.1 hx with hx | hx
      · have := g2 x hx ho
        exact ⟨this.1, fun e => List.mem_append.2 (.inl (this.2 e))⟩
      · simp only [List.mem_singleton] at hx; subst hx
        exact ⟨by simp only; omega, fun _ => by simp⟩
    · rcases List.mem_append.1 hx with hx | hx
      · exact h.low x hx
      · simp only [List.mem_singleton] at hx; subst hx; simp only; omega
/-- Hear, in one. -/
def hearT (s : PS) (n : Int) : PS := if hearC s n = 0 then hearS s n else s
theorem Hear_all (pb wb : Nat) (s : PS) (n : Int) (w : World) (R : Ending → World → Prop) (h : isPeer w pb wb s)
    (hR : ∀ w' wb', (wb' = wb ∨ w.heap.size ≤ wb') → isPeer w' pb wb' (hearT s n) → Mod [pb] w w' → R (.returned (.int .i64 (hearC s n))) w') :
    Calls Try.prog 13 #[.pointer (some ⟨pb, 0, none⟩), .int .i64 n] w R := by
  refine Hear_cps pb wb s n w R h (fun hc w' hM => ?_) (fun hc w' wb' hwb h' hM => ?_)
  · unfold hearT at hR; rw [if_neg hc] at hR
    exact hR w' wb (.inl rfl) (h.mod hM (by simp) (by simp)) (hM.mono (by simp))
  · unfold hearT at hR; rw [if_pos hc, hc] at hR
    exact hR w' wb' hwb h' hM
theorem PInv.hearT {own : Int} {s : PS} {took : List Tri} (h : PInv own s took) (n : Int) : PInv own (hearT s n) took := by
  unfold Go.Proofs.Ytechabbdobbooaa.hearT
  split
  · rename_i hc
    refine h.hear ?_
    unfold hearC at hc
    split at hc
    · simp at hc
    · rename_i h1; exact Decidable.not_not.1 h1
  · exact h
/-! the cells -/
/-- A step that came in. -/
structure Stp where
  d : Int
  a : Int
  b : Int
  n : Int
def stpC (x : Stp) : List Value := [.int .u8 x.d, .int .i64 x.a, .int .i64 x.b, .int .i64 x.n]
def triC (x : Tri) : List Value := [.int .u8 0, .int .i64 x.1, .int .i64 x.2.1, .int .i64 x.2.2]
end Go.Proofs.Ytechabbdobbooaa
