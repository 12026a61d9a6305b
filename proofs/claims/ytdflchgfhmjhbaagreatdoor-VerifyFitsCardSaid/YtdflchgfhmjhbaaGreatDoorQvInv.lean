/-
  A method called through an interface value.
-/
import Derived.Test.YtdflchgfhmjhbaaGreatDoorQvTrp
set_option linter.unusedSimpArgs false
set_option linter.unusedVariables false
namespace Go.Wk
open Go
variable {P : Program} {T : Tab}
theorem hold_invoke {V : Env} {R : Ending → World → Prop} {F : Exit → Act → World → Prop} {all rest : List Oper} {o : Oper} {k : List KI} {fs : List Value} {w : World} {s : Operand} {name : String} {args : Array Operand} {ts : Array Nat} {t f : Nat} {v recv : Value}
    (ho : o.op = .call ⟨.invoke s name, args, ts⟩) (hs : ev fs s = .iface t v) (hm : (method (P.types.size + Made.depth) t v name).run P w = .ok (f, recv) w) (hf : FOk P f)
    (h : Calls P f (recv :: evs fs args.toList).toArray w fun e w' => (∃ v, e = .returned v ∧ Hold P T V R F (.ops all rest) k (put fs o.dst v) w') ∨ (∃ ch, e = .panicked ch ∧ Hold P T V R F (.ex (.panic ch)) k fs w')) :
    Hold P T V R F (.gop .run all o rest) k fs w := by
  obtain ⟨fn, h1, h2, h3⟩ := hf
  have e1 : args.map (Act.eval ⟨fs.toArray, []⟩) = (evs fs args.toList).toArray := by apply Array.ext'; simp [← evs_eq fs []]
  have hr : (execOp (Act.eval ⟨fs.toArray, []⟩) o).run P w = .ok (.enter f (recv :: evs fs args.toList).toArray) w := by
    obtain ⟨dst, op, ty, pos, aft, g⟩ := o
    simp only at ho
    subst ho
    have e3 : (#[Value.iface t v] ++ (evs fs args.toList).toArray)[0]? = some (Value.iface t v) := by simp
    have e4 : (#[Value.iface t v] ++ (evs fs args.toList).toArray).extract 1 (#[Value.iface t v] ++ (evs fs args.toList).toArray).size = (evs fs args.toList).toArray := by apply Array.ext'; simp
    have e5 : #[recv] ++ (evs fs args.toList).toArray = (recv :: evs fs args.toList).toArray := by apply Array.ext'; simp
    unfold execOp
    simp only [resolve, e1, ev_eq, hs, Sem.run_bind, Sem.run_pure, Result.andThen_ok, invoke, e3, e4, callMethod, run_program, hm, callFunc, h1, h2, h3, Bool.false_eq_true, if_false, e5]
  have hev : (act V fs).eval = (Act.eval ⟨fs.toArray, []⟩) := by funext x; exact (ev_eq fs V.ds x).trans (ev_eq fs [] x).symm
  have hQ : VRes P (execOp (act V fs).eval o) w (fun v w' => wpListIn (rf V.ro) 0 P all.toArray (den P V F k) rest ((act V fs).put o.dst v) w') (fun ch w' => den P V F k (.panic ch) (act V fs) w') := by
    refine .inr (.inr (.inl ⟨f, _, by rw [hev]; exact hr, Calls.mono h ?_⟩))
    rintro e w' (⟨v, rfl, h1⟩ | ⟨ch, rfl, h1⟩)
    · refine .inl ⟨v, rfl, ?_⟩
      have h' : wpListIn (rf V.ro) 0 P all.toArray (den P V F k) rest (act V (put fs o.dst v)) w' := h1
      rw [← act_put] at h'
      exact h'
    · exact .inr ⟨ch, rfl, h1⟩
  exact VRes.wpIn (a := act V fs) (fun c => by rw [ho]; simp) hQ
end Go.Wk
