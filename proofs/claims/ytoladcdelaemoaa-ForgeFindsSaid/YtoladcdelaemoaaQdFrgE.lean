/-
  A row of steps that comes in.
-/
import Derived.Test.YtoladcdelaemoaaQdFrg1
import Derived.Test.YtoladcdelaemoaaQdRd
set_option linter.unusedSimpArgs false
set_option linter.unusedVariables false
set_option maxRecDepth 20000
namespace Go.Proofs.Ytoladcdelaemoaa
open Go Go.Wk Go.RowKit
attribute [local irreducible] go Hold
instance : Inhabited Stp := ⟨⟨0, 0, 0, 0, 0, [], [], .slice none 0 0⟩⟩
/-- A row of strings that comes in, as lists of bytes. -/
theorem strB (z : ByteArray) : Value.string z = strV z.data.toList := by cases z; simp [strV]
theorem rdB {w : World} {v : Value} {l : List ByteArray} (h : Rd w 1 v l.length (l.map fun z => Value.string z)) : Rd w 1 v (l.map fun z => z.data.toList).length ((l.map fun z => z.data.toList).map strV) := by
  rw [List.length_map, List.map_map]
  have : (strV ∘ fun z : ByteArray => z.data.toList) = fun z => Value.string z := funext fun z => (strB z).symm
  rw [this]; exact h
theorem smB {l : List ByteArray} (h : ∀ z ∈ l, z.size ≤ maxLen) : ∀ s ∈ l.map (fun z => z.data.toList), s.length ≤ maxLen := by
  intro s hs
  obtain ⟨z, hz, rfl⟩ := List.mem_map.1 hs
  rw [Array.length_toList]
  exact h z hz
end Go.Proofs.Ytoladcdelaemoaa
