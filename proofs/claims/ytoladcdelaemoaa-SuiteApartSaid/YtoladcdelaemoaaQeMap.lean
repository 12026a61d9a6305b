/-
  Maps.
-/
import Derived.Test.YtoladcdelaemoaaQeRec
set_option linter.unusedSimpArgs false
set_option linter.unusedVariables false
namespace Go.Wk
open Go
variable {P : Program} {T : Tab}
/-- A map, as the row of its entries. -/
def MapAt (w : World) (r : Nat) (l : List (Value × Value)) : Prop := ∃ es clock, w.heap[r]? = some (.map es clock) ∧ entriesOf es = l
theorem MapAt.mod {S : List Nat} {w w' : World} {r : Nat} {l : List (Value × Value)} (h : MapAt w r l) (hm : Mod S w w') (hn : r ∉ S) : MapAt w' r l := by
  obtain ⟨es, c, h1, h2⟩ := h
  exact ⟨es, c, hm.get h1 hn, h2⟩
theorem MapAt.lt {w : World} {r : Nat} {l : List (Value × Value)} (h : MapAt w r l) : r < w.heap.size := by obtain ⟨es, c, h1, _⟩ := h; exact ltOf h1
end Go.Wk
