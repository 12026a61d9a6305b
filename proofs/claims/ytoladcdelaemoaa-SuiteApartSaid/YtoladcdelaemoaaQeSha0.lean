/-
  'a[i:j]' of an array.
-/
import Derived.Test.YtoladcdelaemoaaQeTab
import Derived.Test.YtoladcdelaemoaaQeGs
import Derived.Deep.Slices
import Derived.Test.YtoladcdelaemoaaQeRec
import Derived.Test.YtoladcdelaemoaaQeMap
import Derived.Test.YtoladcdelaemoaaQeCpy
import Derived.Laws.AppendOwn
set_option linter.unusedSimpArgs false
set_option linter.unusedVariables false
set_option maxRecDepth 20000
namespace Go.Proofs.Ytoladcdelaemoaa
open Go Go.Wk Go.RowKit
attribute [local irreducible] go Hold
theorem slArr {T : Tab} {m e : Nat} {a : Addr} {j j' : IntKind} {l h : Int} : sliceC T (.arr m e) (.pointer (some a)) (some (.int j l)) (some (.int j' h)) = chk (0 ≤ l ∧ l ≤ h ∧ h ≤ m) (.slice (some (if (m : Int) = l then a else a.add (l.toNat * sizeOf' T e))) (h.toNat - l.toNat) (m - l.toNat)) := Eq.trans rfl rfl
theorem slArr0 {T : Tab} {m e : Nat} {a : Addr} : sliceC T (.arr m e) (.pointer (some a)) none none = some (.slice (some a) m m) := Eq.trans rfl rfl
end Go.Proofs.Ytoladcdelaemoaa
