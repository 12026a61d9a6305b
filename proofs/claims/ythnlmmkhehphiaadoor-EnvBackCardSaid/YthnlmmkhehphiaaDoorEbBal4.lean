/-
  ballot: which ballot any text is the body of (plain); the readers, each with one result.
-/
import Derived.Test.YthnlmmkhehphiaaDoorEbBal2
import Derived.Test.YthnlmmkhehphiaaDoorEbW2
import Derived.Test.YthnlmmkhehphiaaDoorEbW1
import Derived.Test.YthnlmmkhehphiaaDoorEbRefC
set_option linter.unusedSimpArgs false
set_option linter.unusedVariables false
set_option maxRecDepth 20000
namespace Go.Proofs.YthnlmmkhehphiaaDoor
open Go Go.Wk Go.RowKit
attribute [local irreducible] go Hold
open Go.Lib
theorem cell_lt13 {w : World} {b o : Nat} {v : Value} (h : w.cell? ⟨b, o, none⟩ = some v) : b < w.heap.size := by
  by_cases hb : b < w.heap.size
  · exact hb
  · have : w.heap[b]? = none := Array.getElem?_eq_none (by omega)
    simp [World.cell?, this] at h
theorem nuV_u13 (o : Option Nat) : nuV o = .tuple #[.int .i64 ((o.getD 0 : Nat) : Int), .bool o.isSome] := by cases o <;> rfl
end Go.Proofs.YthnlmmkhehphiaaDoor
