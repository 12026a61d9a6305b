/-
  strings.Builder: what holds a text; its calls, as contracts.
-/
import Derived.Test.YticoollhaachfaaBld3
set_option linter.unusedSimpArgs false
set_option linter.unusedVariables false
namespace Go.Proofs.Yticoollhaachfaa
open Go Go.Wk Go.RowKit
attribute [local irreducible] go Hold
open Go.Lib
/-- At b stands a Builder that holds l; its row is younger. -/
def Bd (b : Nat) (l : List UInt8) (w : World) : Prop := IsBuilderF 101 5 b b (byteCells l) w
theorem grown_of {w w' : World} (h : Mod [] w w') : w.grownBy w' none := ⟨h.os, h.tape, h.output, h.size, fun k hk _ => h.block k hk (by simp)⟩
theorem ownF_mod {S : List Nat} {w w' : World} {base e size n : Nat} {v : Value} {xs : List Value} (h : w.ownsRowF base e size v n xs) (hm : Mod S w w') (hn : ∀ x ∈ S, x < base) : w'.ownsRowF base e size v n xs := by
  refine ⟨h.1, ?_⟩
  rcases h.2 with h1 | ⟨g, cap, cur, fz, rfl, hb, hg, rest⟩
  · exact .inl h1
  · exact .inr ⟨g, cap, cur, fz, rfl, hb, hm.get hg (fun hx => by have := hn g hx; omega), rest⟩
theorem Bd.mod {S : List Nat} {b : Nat} {l : List UInt8} {w w' : World} (h : Bd b l w) (hm : Mod S w w') (hn : ∀ x ∈ S, x < b) : Bd b l w' := by
  have key : ∀ p, BuilderAtF 101 5 b b p (byteCells l) w → BuilderAtF 101 5 b b p (byteCells l) w' := by
    rintro p ⟨hB, v, hb, hown, hne⟩
    exact ⟨hB, v, hm.get hb (fun hx => by have := hn b hx; omega), ownF_mod hown hm hn, hne⟩
  rcases h with h | h
  · exact .inl (key _ h)
  · exact .inr (key _ h)
theorem Bd.new {w : World} : Bd w.heap.size [] (w.alloc (.cells #[.pointer none, .slice none 0 0] 101)) :=
  .inl ⟨Nat.le_refl _, _, heapNew, World.ownsRowF_nil _ _ _ _, by simp [Value.ownBlock]⟩
theorem Mod.under {S : List Nat} {B : Nat} {w0 w w' : World} (h : Mod S w0 w) (hb : Below B w w') (hB : w0.heap.size ≤ B) : Mod S w0 w' :=
  ⟨hb.os.trans h.os, hb.tape.trans h.tape, hb.output.trans h.output, Nat.le_trans h.size hb.size, fun k hk hn => (hb.block k (by omega)).trans (h.block k hk hn)⟩
theorem Bd.lt {b : Nat} {l : List UInt8} {w : World} (h : Bd b l w) : b < w.heap.size := by
  rcases h with h | h <;> exact h.lt
theorem bdWrite_cps (b : Nat) (cur s : List UInt8) (w : World) (h : Bd b cur w) (hlen : cur.length + s.length ≤ 140737488355328) (R : Ending → World → Prop)
    (hR : ∀ w', Bd b (cur ++ s) w' → BM b w w' → R (.returned (.tuple #[.int .i64 s.length, .nilIface])) w') :
    Calls Try.prog 58 #[.pointer (some ⟨b, 0, none⟩), .string ⟨s.toArray⟩] w R := by
  refine bWrite_cps b b (byteCells cur) s w h (by rw [byteCells_length]; exact hlen) (Nat.le_of_lt h.lt) R fun w' h' hb => hR w' (.inr ?_) hb
  rw [byteCells_append]; exact h'
theorem bdLen_cps (b : Nat) (cur : List UInt8) (w : World) (h : Bd b cur w) (hl : cur.length ≤ 140737488355328) (R : Ending → World → Prop) (hR : R (.returned (.int .i64 cur.length)) w) :
    Calls Try.prog 59 #[.pointer (some ⟨b, 0, none⟩)] w R :=
  bLen_cps b b (byteCells cur) w h (by rw [byteCells_length]; exact hl) R (by rw [byteCells_length]; exact hR)
theorem bdString_cps (b : Nat) (cur : List UInt8) (w : World) (h : Bd b cur w) (h0 : cur ≠ []) (R : Ending → World → Prop) (hR : ∀ w', Bd b cur w' → BM b w w' → R (.returned (.string ⟨cur.toArray⟩)) w') :
    Calls Try.prog 60 #[.pointer (some ⟨b, 0, none⟩)] w R := by
  refine (bString b b cur w h h0).mono ?_
  rintro e w' ⟨rfl, h1, h2⟩
  exact hR w' h1 h2
end Go.Proofs.Yticoollhaachfaa
