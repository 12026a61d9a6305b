/-
  term.Check. What is made of texts: data, atoms, numbers; the reference's rows (walks). strings.Builder (walks; after the shelf's own). strings.Builder: WriteString, Len (walks). strings.Builder: String (walk; after the shelf's own). strings.Builder: what holds a text; its calls, as contracts. What letters and parts make (walks). The reference's made; rows, hashes, macs, seals (walks).
-/
import Derived.Test.YtpcilobbohokcaaPkpB3
import Derived.Shelf.Strings.BuilderX
import Derived.Lib.Builder
import Derived.Lib.AppendStr
import Derived.Lib.FrozenHead
import Derived.Lib.Walk
import Derived.Shelf.RegionOpenPlain
import Derived.Lib.UnsafeStr
set_option linter.unusedSimpArgs false
set_option linter.unusedVariables false
namespace Go.Proofs.Ytpcilobbohokcaa
open Go Go.Wk Go.RowKit
attribute [local irreducible] go Hold
set_option maxHeartbeats 2000000 in
theorem tCheck_cps (S : List UInt8) (hS : S.length ≤ maxLen) (w : World) (R : Ending → World → Prop) (hR : ∀ w', Mod [] w w' → R (.returned (.int .i64 (checkS S))) w') :
    Calls Try.prog 12 #[.string ⟨S.toArray⟩] w R := by
  have hS' := hS
  unfold maxLen at hS
  have hl := readS_len S
  unfold checkS at hR
  refine calls_go 4000 okT Try.func12 rfl (rs := [.tmp 2]) rfl Try.ntmps12 (args := [.string ⟨S.toArray⟩]) ?_
  simp (maxSteps := 1000000) (disch := first | omega | (simp only [sizeAlloc, sizeDrew, sizeSet, sizePut] <;> omega) | fail) only [GS, TT_eq, TTl, Nat.reduceAdd, Nat.reduceMul, Nat.reduceSub, Nat.reduceDiv, Nat.reduceMod, Nat.reducePow, Nat.reduceEqDiff, ↓reduceIte, reduceCtorEq, Int.reduceToNat, Int.reduceAdd, Int.reduceSub, Int.reduceMul]
  refine ⟨fok49, tRead_cps S hS' _ _ fun w1 hM => .inl ⟨_, rfl, hold_ops okT (rs := [.tmp 2]) rfl ?_⟩⟩
  have hR := hR w1 hM
  generalize readS S = X at hR hl ⊢
  obtain ⟨m, e⟩ := X
  unfold rd2V
  simp only at hR hl ⊢
  by_cases he : e = 0
  · subst he
    simp only [if_true] at hR
    by_cases h : m = S.length
    · rw [if_pos h] at hR
      simp (maxSteps := 1000000) (disch := first | omega | (simp only [sizeAlloc, sizeDrew, sizeSet, sizePut] <;> omega) | fail) only [GS, TT_eq, TTl, Nat.reduceAdd, Nat.reduceMul, Nat.reduceSub, Nat.reduceDiv, Nat.reduceMod, Nat.reducePow, Nat.reduceEqDiff, ↓reduceIte, reduceCtorEq, Int.reduceToNat, Int.reduceAdd, Int.reduceSub, Int.reduceMul]
      exact hR
    · rw [if_neg h] at hR
      simp (maxSteps := 1000000) (disch := first | omega | (simp only [sizeAlloc, sizeDrew, sizeSet, sizePut] <;> omega) | fail) only [GS, TT_eq, TTl, Nat.reduceAdd, Nat.reduceMul, Nat.reduceSub, Nat.reduceDiv, Nat.reduceMod, Nat.reducePow, Nat.reduceEqDiff, ↓reduceIte, reduceCtorEq, Int.reduceToNat, Int.reduceAdd, Int.reduceSub, Int.reduceMul]
      exact hR
  · rw [if_neg he] at hR
    simp (maxSteps := 1000000) (disch := first | omega | (simp only [sizeAlloc, sizeDrew, sizeSet, sizePut] <;> omega) | fail) only [GS, TT_eq, TTl, Nat.reduceAdd, Nat.reduceMul, Nat.reduceSub, Nat.reduceDiv, Nat.reduceMod, Nat.reducePow, Nat.reduceEqDiff, ↓reduceIte, reduceCtorEq, Int.reduceToNat, Int.reduceAdd, Int.reduceSub, Int.reduceMul]
    exact hR
def strV (l : List UInt8) : Value := .string ⟨l.toArray⟩
end Go.Proofs.Ytpcilobbohokcaa
set_option linter.unusedSimpArgs false
set_option linter.unusedVariables false
namespace Go.Proofs.Ytpcilobbohokcaa
open Go Go.Wk Go.RowKit
attribute [local irreducible] go Hold
end Go.Proofs.Ytpcilobbohokcaa
set_option linter.unusedSimpArgs false
set_option linter.unusedVariables false
namespace Go.Proofs.Ytpcilobbohokcaa
open Go Go.Wk Go.RowKit
attribute [local irreducible] go Hold
end Go.Proofs.Ytpcilobbohokcaa
set_option linter.unusedSimpArgs false
set_option linter.unusedVariables false
namespace Go.Proofs.Ytpcilobbohokcaa
open Go Go.Wk Go.RowKit
attribute [local irreducible] go Hold
open Go.Lib
/-- What a Builder's call may have turned: the Builder, its row of bytes. -/
def BC (w : World) (x : Nat) : Prop := (∃ (cs : Array Value) (t : Nat) (fr : Nat × Nat), w.heap[x]? = some (.cells cs t fr) ∧ (t = 5 ∨ t = 164)) ∨ w.heap.size ≤ x
def BM (b : Nat) (w w' : World) : Prop := ∃ Z, Mod Z w w' ∧ ∀ x ∈ Z, b ≤ x ∧ BC w x
theorem BM.refl (b : Nat) (w : World) : BM b w w := ⟨[], Mod.refl _ _, by simp⟩
theorem BM.trans {b : Nat} {w w' w'' : World} (h : BM b w w') (k : BM b w' w'') : BM b w w'' := by
  obtain ⟨Z, h1, h2⟩ := h
  obtain ⟨Y, k1, k2⟩ := k
  refine ⟨Z ++ Y, (h1.mono (by simp +contextual)).trans k1 (fun x hx => .inl (by simp [hx])), fun x hx => ?_⟩
  rw [List.mem_append] at hx
  by_cases hz : x ∈ Z
  · exact h2 x hz
  · have hy := hx.resolve_left hz
    refine ⟨(k2 x hy).1, ?_⟩
    by_cases hlt : x < w.heap.size
    · rcases (k2 x hy).2 with ⟨cs, t, fr, g1, g2⟩ | g
      · rw [h1.block x hlt hz] at g1; exact .inl ⟨cs, t, fr, g1, g2⟩
      · have := h1.size; omega
    · exact .inr (by omega)
theorem BM.below {b : Nat} {w w' : World} (h : BM b w w') (hb : b ≤ w.heap.size) : Below b w w' := by
  obtain ⟨Z, h1, h2⟩ := h
  exact h1.below hb fun x hx => (h2 x hx).1
end Go.Proofs.Ytpcilobbohokcaa
set_option linter.unusedSimpArgs false
set_option linter.unusedVariables false
namespace Go.Proofs.Ytpcilobbohokcaa
open Go Go.Wk Go.RowKit
attribute [local irreducible] go Hold
open Go.Lib
end Go.Proofs.Ytpcilobbohokcaa
set_option linter.unusedSimpArgs false
set_option linter.unusedVariables false
namespace Go.Proofs.Ytpcilobbohokcaa
open Go Go.Wk Go.RowKit
attribute [local irreducible] go Hold
open Go.Lib
/-- At b stands a Builder that holds l; its row is younger. -/
def Bd (b : Nat) (l : List UInt8) (w : World) : Prop := IsBuilderF 164 5 b b (byteCells l) w
theorem ownF_mod {S : List Nat} {w w' : World} {base e size n : Nat} {v : Value} {xs : List Value} (h : w.ownsRowF base e size v n xs) (hm : Mod S w w') (hn : ∀ x ∈ S, x < base) : w'.ownsRowF base e size v n xs := by
  refine ⟨h.1, ?_⟩
  rcases h.2 with h1 | ⟨g, cap, cur, fz, rfl, hb, hg, rest⟩
  · exact .inl h1
  · exact .inr ⟨g, cap, cur, fz, rfl, hb, hm.get hg (fun hx => by have := hn g hx; omega), rest⟩
theorem Bd.mod {S : List Nat} {b : Nat} {l : List UInt8} {w w' : World} (h : Bd b l w) (hm : Mod S w w') (hn : ∀ x ∈ S, x < b) : Bd b l w' := by
  have key : ∀ p, BuilderAtF 164 5 b b p (byteCells l) w → BuilderAtF 164 5 b b p (byteCells l) w' := by
    rintro p ⟨hB, v, hb, hown, hne⟩
    exact ⟨hB, v, hm.get hb (fun hx => by have := hn b hx; omega), ownF_mod hown hm hn, hne⟩
  rcases h with h | h
  · exact .inl (key _ h)
  · exact .inr (key _ h)
theorem Bd.lt {b : Nat} {l : List UInt8} {w : World} (h : Bd b l w) : b < w.heap.size := by
  rcases h with h | h <;> exact h.lt
end Go.Proofs.Ytpcilobbohokcaa
set_option linter.unusedSimpArgs false
set_option linter.unusedVariables false
namespace Go.Proofs.Ytpcilobbohokcaa
open Go Go.Wk Go.RowKit
attribute [local irreducible] go Hold
open Go.Lib
end Go.Proofs.Ytpcilobbohokcaa
set_option linter.unusedSimpArgs false
set_option linter.unusedVariables false
namespace Go.Proofs.Ytpcilobbohokcaa
open Go Go.Wk Go.RowKit
attribute [local irreducible] go Hold
open Go.Lib
end Go.Proofs.Ytpcilobbohokcaa
