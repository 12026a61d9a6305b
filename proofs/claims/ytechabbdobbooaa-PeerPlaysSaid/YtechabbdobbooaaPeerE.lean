/-
  A row of steps that comes in.
-/
import Derived.Test.YtechabbdobbooaaPeer4
import Derived.Test.YtechabbdobbooaaRd
set_option linter.unusedSimpArgs false
set_option linter.unusedVariables false
namespace Go.Proofs.Ytechabbdobbooaa
open Go Go.Wk Go.RowKit
attribute [local irreducible] go Hold
instance : Inhabited Stp := ⟨⟨0, 0, 0, 0⟩⟩
theorem stp_el {H : Type} {enc : TypeId × Value → H} {w : World} {base : Nat} {spare : Nat → Bool} {held : Bool} : ∀ n cs y, DataW.trod enc Try.prog w base spare held n 37 cs = some y → ∃ a : Stp, cs = stpC a ∧ True := by
  intro n cs y h
  obtain ⟨hl, hf⟩ := el_field Try.underlying37 h
  rw [show Try.prog.cellsOf 37 = 4 from by kernel_rfl] at hl
  obtain ⟨m0, z0, e0⟩ := hf 0 _ rfl
  obtain ⟨m1, z1, e1⟩ := hf 1 _ rfl
  obtain ⟨m2, z2, e2⟩ := hf 2 _ rfl
  obtain ⟨m3, z3, e3⟩ := hf 3 _ rfl
  obtain ⟨a0, f0, _⟩ := DataW.trod_int Try.underlying5 e0
  obtain ⟨a1, f1, _⟩ := DataW.trod_int Try.underlying3 e1
  obtain ⟨a2, f2, _⟩ := DataW.trod_int Try.underlying3 e2
  obtain ⟨a3, f3, _⟩ := DataW.trod_int Try.underlying3 e3
  have c5 : Try.prog.cellsOf 5 = 1 := by kernel_rfl
  have c3 : Try.prog.cellsOf 3 = 1 := by kernel_rfl
  have f0 : List.take (Try.prog.cellsOf 5) (List.drop 0 cs) = _ := f0
  have f1 : List.take (Try.prog.cellsOf 3) (List.drop 1 cs) = _ := f1
  have f2 : List.take (Try.prog.cellsOf 3) (List.drop 2 cs) = _ := f2
  have f3 : List.take (Try.prog.cellsOf 3) (List.drop 3 cs) = _ := f3
  rw [c5] at f0
  rw [c3] at f1 f2 f3
  match cs, hl with
  | [c0, c1, c2, c3], _ =>
    simp at f0 f1 f2 f3
    subst f0 f1 f2 f3
    exact ⟨⟨a0, a1, a2, a3⟩, rfl, trivial⟩
end Go.Proofs.Ytechabbdobbooaa
