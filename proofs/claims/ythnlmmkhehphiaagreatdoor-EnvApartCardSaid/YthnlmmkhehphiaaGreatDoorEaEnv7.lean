/-
  chirographref20: epoch, MayHead, May, parts, Head, Encode, number (walks).
-/
import Derived.Test.YthnlmmkhehphiaaGreatDoorEaEnv5
import Derived.Test.YthnlmmkhehphiaaGreatDoorEaB5
import Derived.Test.YthnlmmkhehphiaaGreatDoorEaW1
import Derived.Test.YthnlmmkhehphiaaGreatDoorEaW2
import Derived.Test.YthnlmmkhehphiaaGreatDoorEaBal4
set_option linter.unusedSimpArgs false
set_option linter.unusedVariables false
set_option maxRecDepth 20000
namespace Go.Proofs.YthnlmmkhehphiaaGreatDoor
open Go Go.Wk Go.RowKit
attribute [local irreducible] go Hold
open Go.Lib
theorem mayH_iff {x : Ev} : mayH x = true ↔ (0 ≤ x.f ∧ x.f ≤ 7) ∧ (0 ≤ x.t ∧ x.t ≤ 7) ∧ (1 ≤ x.fe ∧ x.fe ≤ 255) ∧ (1 ≤ x.te ∧ x.te ≤ 255) ∧ (1 ≤ x.no ∧ x.no ≤ 65535) ∧ x.f ≠ x.t ∧ checkS x.body = 0 := by
  constructor
  · intro h
    obtain ⟨ha, h1, h2⟩ := mayH_is h
    have h := allN_is ha
    have a0 := h 0 (by omega)
    have a1 := h 1 (by omega)
    have a2 := h 2 (by omega)
    have a3 := h 3 (by omega)
    have a4 := h 4 (by omega)
    simp only [inN, evN, loN, hiN, List.getD_cons_zero, List.getD_cons_succ] at a0 a1 a2 a3 a4
    exact ⟨a0, a1, a2, a3, a4, h1, h2⟩
  · rintro ⟨a0, a1, a2, a3, a4, h1, h2⟩
    have ha : allN x = true := allN_of fun j hj => by
      have hj5 : j = 0 ∨ j = 1 ∨ j = 2 ∨ j = 3 ∨ j = 4 := by omega
      rcases hj5 with rfl | rfl | rfl | rfl | rfl <;> (simp only [inN, evN, loN, hiN, List.getD_cons_zero, List.getD_cons_succ]; assumption)
    unfold mayH
    rw [ha, decide_eq_true h1, decide_eq_true h2]
    rfl
end Go.Proofs.YthnlmmkhehphiaaGreatDoor
