/-
  BallotApart: a tag is of one ballot alone (plain); the reference's Same of any two; the law (walks).
-/
import Derived.Test.YthnlmmkhehphiaaGreatDoorEaBal4
import Derived.Test.YthnlmmkhehphiaaGreatDoorEaBal2
import Derived.Test.YthnlmmkhehphiaaGreatDoorEaW2
set_option linter.unusedSimpArgs false
set_option linter.unusedVariables false
set_option maxRecDepth 20000
namespace Go.Proofs.YthnlmmkhehphiaaGreatDoor
open Go Go.Wk Go.RowKit
attribute [local irreducible] go Hold
open Go.Lib
/-- A tag that is one: its parts. -/
theorem tag_parts {x : Tx} {aud : Int} {mbs : List Mb} {org : Int} (h : (tagS x aud mbs org).2 = 0) : (bodyS x aud mbs org).2 = 0 ∧ partsS (tagS x aud mbs org).1 = [(atomS (keyL 1 org aud)).1, (bodyS x aud mbs org).1] := by
  unfold tagS at h ⊢
  split at h
  · rename_i h0
    rw [if_pos h0]
    refine ⟨h0, ?_⟩
    obtain ⟨K, tr, e⟩ := made_is (front := [109]) (l := [(atomS (keyL 1 org aud)).1, (bodyS x aud mbs org).1]) (.inr (.inr (.inr (.inr (.inl ⟨rfl, rfl⟩))))) (Prod.ext rfl h)
    rw [tr.parts, e]
  · rename_i h0
    exact absurd h h0
end Go.Proofs.YthnlmmkhehphiaaGreatDoor
