/-
  In a tree of a drawn region: an operation that acts, by its run.
-/
import Derived.Test.YtoladcdelaemoaaQeTrp
set_option linter.unusedSimpArgs false
set_option linter.unusedVariables false
namespace Go.Wk
open Go
variable {P : Program} {T : Tab}
theorem ht_effE {V : Env} {R : Ending → World → Prop} {F : Exit → Act → World → Prop} {all : List Oper} {m : List Nat} {i : Nat} {o : Oper} {t more : OT} {pnd : List PR} {k : List KI} {fs : List Value} {w w' : World} {v : Value}
    (ho : all[i]? = some o) (hg : gd all fs o = .run) (hr : (execOp (Act.eval ⟨fs.toArray, []⟩) o).run P w = .ok (.value v) w') (hs : staysP T m i w' pnd) (h : HT P T V R F all m t pnd k (put fs o.dst v) w') (h2 : HT P T V R F all m more pnd k fs w) : HT P T V R F all m (.eff i t more) pnd k fs w := by
  intro D hD
  exact ⟨⟨o, by simpa using ho, gd_run hg, .inl ⟨v, w', hr, ht_stays (all := all) hD hs, h _ (ht_rec hD)⟩⟩, h2 D hD⟩
end Go.Wk
