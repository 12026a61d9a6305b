/-
  term.Depth (walks).
-/
import Derived.Test.YtpcmebcfgmoipaaSiz1
set_option linter.unusedSimpArgs false
set_option linter.unusedVariables false
namespace Go.Proofs.Ytpcmebcfgmoipaa
open Go Go.Wk Go.RowKit
attribute [local irreducible] go Hold
open Go.Lib
def dpL (l : List PL) : Nat := l.foldl (fun n p => max n p.2.2) 0
def depthS (s : List UInt8) : Nat := if checkS s = 0 then dpL (placesS s) else 0
theorem dpL_snoc (l : List PL) (p : PL) : dpL (l ++ [p]) = max (dpL l) p.2.2 := by unfold dpL; rw [List.foldl_append]; rfl
theorem plOkD {S : List UInt8} {done r : List PL} {p : PL} (h : done ++ p :: r = placesS S) : plOk S.length p := placesS_ok (by rw [← h]; simp)
theorem dpL_b : ∀ (l : List PL), (∀ p ∈ l, p.2.2 ≤ 16) → dpL l ≤ 16 := by
  have key : ∀ (l : List PL) (z : Nat), z ≤ 16 → (∀ p ∈ l, p.2.2 ≤ 16) → l.foldl (fun n p => max n p.2.2) z ≤ 16 := by
    intro l; induction l with
    | nil => intro z hz _; exact hz
    | cons p l ih =>
      intro z hz h
      rw [List.foldl_cons]
      exact ih _ (by have := h p (by simp); omega) (fun q hq => h q (List.mem_cons_of_mem _ hq))
  intro l h; exact key l 0 (by omega) h
theorem dpL_le (S : List UInt8) : dpL (placesS S) ≤ 16 := dpL_b _ fun p hp => (placesS_ok hp).2.2.2.1
theorem dpL_le' {S : List UInt8} {done r : List PL} {p : PL} (h : done ++ p :: r = placesS S) : dpL done ≤ 16 := dpL_b _ fun q hq => (placesS_ok (S := S) (by rw [← h]; simp [hq])).2.2.2.1
end Go.Proofs.Ytpcmebcfgmoipaa
