/-
  A range over a function: the statement, and a round of it.
-/
import Derived.Test.YtdflchgfhmjhbaaGreatDoorQvWk7
set_option linter.unusedSimpArgs false
set_option linter.unusedVariables false
namespace Go.Wk
open Go
variable {P : Program} {T : Tab}
def jumpE : Option Code → Exit → Prop
  | none, e => e = .normal
  | some .ret, e => e = .ret
  | some (.exit id), e => e = .exit id
  | _, _ => False
/-- The record of a loop, ready. -/
abbrev rec0 (fid : Nat) (fs : List Value) (ps : Array Tmp) (assign body : Code) (D : Nat) : Loop := ⟨.ready, none, fid, fs.toArray, ps, assign, body, D⟩
def rangeEnd (P : Program) (T : Tab) (R : Ending → World → Prop) (F : Exit → Act → World → Prop) (V : Env) (k : List KI) (fs : List Value) (l : Nat) : Ending → World → Prop
  | .returned _, w => ∃ r e, w.heap[l]? = some (.loop r) ∧ r.state ≠ .busy ∧ jumpE r.pending e ∧ Hold P T V R F (.ex e) k fs (w.putObj l (.loop { r with state := .exhausted }))
  | .panicked ch, w => Hold P T V R F (.ex (.panic ch)) k fs w
  | .outgrown, _ => False
theorem hold_rangeFunc {F : Exit → Act → World → Prop} {R : Ending → World → Prop} {g : Operand} {ps : Array Tmp} {assign body : Code} {k : List KI} {fs : List Value} {w : World} {ds : List Deferred} {sp : Option Nat} {f : Nat} {first cap : Array Value}
    (hg : ev fs g = .func (.func f) first cap) (hf : FOk P f)
    (h : ∀ fid, Calls P f (first.toList ++ [Value.func (.yield (w.heap.size + 1)) #[] #[]] ++ cap.toList).toArray
      ((w.alloc (.deferred (some []))).alloc (.loop (rec0 fid fs ps assign body w.heap.size)))
      (rangeEnd P T R F ⟨none, ⟨.collected w.heap.size, #[]⟩ :: ds, sp⟩ k fs (w.heap.size + 1))) :
    Hold P T ⟨none, ds, sp⟩ R F (.code (.rangeFunc g ps assign body)) k fs w := by
  show (Code.rangeFunc g ps assign body).wpIn (rf none) 0 P (den P ⟨none, ds, sp⟩ F k) (act ⟨none, ds, sp⟩ fs) w
  refine wpIn_rangeFunc fun fid _ => ?_
  obtain ⟨fn, h1, h2, h3⟩ := hf
  have hres : (resolve (act ⟨none, ds, sp⟩ fs).eval (rangeCall g (w.heap.size + 1)) 0).run P ((w.alloc (.deferred (some []))).alloc (.loop (rec0 fid fs ps assign body w.heap.size))) =
      .ok ⟨.fn (.func f) cap, first ++ #[Value.func (.yield (w.heap.size + 1)) #[] #[]]⟩ ((w.alloc (.deferred (some []))).alloc (.loop (rec0 fid fs ps assign body w.heap.size))) := by
    have e : ∀ x, (act ⟨none, ds, sp⟩ fs).eval x = ev fs x := fun x => ev_eq fs ds x
    have e2 : ∀ v, ev fs (.const v) = v := fun _ => rfl
    simp [resolve, rangeCall, e, e2, hg, Deferred.ofValue, Sem.run_bind, Sem.run_pure, Result.andThen_ok]
  have hinv : (invoke (.fn (.func f) cap) (first ++ #[Value.func (.yield (w.heap.size + 1)) #[] #[]])).run P ((w.alloc (.deferred (some []))).alloc (.loop (rec0 fid fs ps assign body w.heap.size))) =
      .ok (.enter f (first.toList ++ [Value.func (.yield (w.heap.size + 1)) #[] #[]] ++ cap.toList).toArray) ((w.alloc (.deferred (some []))).alloc (.loop (rec0 fid fs ps assign body w.heap.size))) := by
    have e2 : (first ++ #[Value.func (.yield (w.heap.size + 1)) #[] #[]] ++ cap) = (first.toList ++ [Value.func (.yield (w.heap.size + 1)) #[] #[]] ++ cap.toList).toArray := by apply Array.ext'; simp
    simp only [invoke, callFunc, Sem.run_bind, Sem.run_pure, Result.andThen_ok, run_program, h1, h2, h3, Bool.false_eq_true, if_false, e2]
  refine ⟨w.heap.size + 1, _, _, _, _, f, _, _, run_enterLoop_outer fid fs.toArray ps assign body, hres, fun _ _ => trivial, hinv, fun h => by simp [rf] at h, callsIn_rf.2 (Calls.mono (h fid) ?_)⟩
  intro e w3 he
  cases e with
  | returned v =>
    obtain ⟨r, e, h1, h2, h3, h4⟩ := he
    refine ⟨r.pending, _, run_endLoop h1 h2, ?_⟩
    have h4 : den P ⟨none, ds, sp⟩ F k e (act ⟨none, ⟨.collected w.heap.size, #[]⟩ :: ds, sp⟩ fs) (w3.putObj (w.heap.size + 1) (.loop { r with state := .exhausted })) := by
      rw [den_env (P := P) (F := F) (V := ⟨none, ds, sp⟩) (V' := ⟨none, ⟨.collected w.heap.size, #[]⟩ :: ds, sp⟩) rfl k]; exact h4
    obtain ⟨st, pend, a1, a2, a3, a4, a5, a6⟩ := r
    cases pend with
    | none => cases h3; exact h4
    | some c =>
      cases c with
      | ret => cases h3; exact wpIn_ret h4
      | exit id => cases h3; exact wpIn_exit h4
      | _ => exact h3.elim
  | panicked ch =>
    show den P ⟨none, ds, sp⟩ F k (.panic ch) (act ⟨none, ⟨.collected w.heap.size, #[]⟩ :: ds, sp⟩ fs) w3
    rw [den_env (P := P) (F := F) (V := ⟨none, ds, sp⟩) (V' := ⟨none, ⟨.collected w.heap.size, #[]⟩ :: ds, sp⟩) rfl k]; exact he
  | outgrown => exact he.elim
/-- A function's name for the walks of a round. -/
def fnR : Func := { (default : Func) with results := #[] }
abbrev RF : Ending → World → Prop := fun _ _ => False
/-- How a round ends. -/
def roundEnd (K : Value → World → Prop) (l : Nat) : Exit → World → Prop
  | .normal, w => ∃ r, w.heap[l]? = some (.loop r) ∧ K (.bool true) (w.putObj l (.loop { r with state := .ready, pending := none }))
  | .ret, w => ∃ r, w.heap[l]? = some (.loop r) ∧ K (.bool false) (w.putObj l (.loop { r with state := .done, pending := some .ret }))
  | .exit id, w => ∃ r, w.heap[l]? = some (.loop r) ∧ K (.bool false) (w.putObj l (.loop { r with state := .done, pending := some (.exit id) }))
  | _, _ => False
def roundBody (P : Program) (T : Tab) (K : Value → World → Prop) (l : Nat) (body : Code) (e : Exit) (ds : List Deferred) (fs : List Value) (w : World) : Prop :=
  e = .normal ∧ ds = [] ∧ ∃ r, w.heap[l]? = some (.loop r) ∧ r.state = .ready ∧
    Hold P T ⟨some l, [], none⟩ RF (fin P fnR RF) (.code body) [.out fun e _ _ w => roundEnd K l e w] fs (w.putObj l (.loop { r with state := .busy }))
/-- A round: the assignments, then the body. -/
theorem yieldW_of {l : Nat} {fid : Nat} {fs : List Value} {ps : Array Tmp} {assign body : Code} {D : Nat} {pd : Option Code} {args : List Value} {w : World} {K : Value → World → Prop} {E : List PanicEntry → World → Prop}
    (h1 : w.heap[l]? = some (.loop ⟨.ready, pd, fid, fs.toArray, ps, assign, body, D⟩)) (hs : args.length = ps.size)
    (h : Hold P T ⟨some l, [], none⟩ RF (fin P fnR RF) (.code assign) [.out (roundBody P T K l body)] (sets fs ps.toList args) w) :
    yieldW P l args.toArray w K E := by
  refine ⟨fid, _, assign, body, run_yield h1 (by simpa using hs), ?_⟩
  have hsets : (ps.zip args.toArray).foldl (fun tmps (x : Tmp × Value) => tmps.setIfInBounds x.1 x.2) fs.toArray = (sets fs ps.toList args).toArray := by
    have key : ∀ (ps : List Tmp) (args : List Value) (fs : List Value), (ps.zip args).foldl (fun tmps (x : Tmp × Value) => tmps.setIfInBounds x.1 x.2) fs.toArray = (sets fs ps args).toArray := by
      intro ps
      induction ps with
      | nil => intro args fs; simp [sets]
      | cons t ps ih =>
        intro args fs
        cases args with
        | nil => simp [sets]
        | cons v args => simp only [List.zip_cons_cons, List.foldl_cons, sets]; rw [← ih, set_eq]
    rw [← key]
    rw [← Array.foldl_toList, Array.toList_zip]
  refine roundIn_of_wpIn (F := rf none) trivial ?_
  have hf : fnR.results = ([] : List ResultVar).toArray := rfl
  have h' : assign.wpIn (rf (some l)) 0 P (den P ⟨some l, [], none⟩ (fin P fnR RF) [.out (roundBody P T K l body)]) (act ⟨some l, [], none⟩ (sets fs ps.toList args)) w := h
  show assign.wpIn (rf (some l)) 0 P _ _ w
  rw [show (⟨(ps.zip args.toArray).foldl (fun tmps (x : Tmp × Value) => tmps.setIfInBounds x.1 x.2) fs.toArray, []⟩ : Act) = act ⟨some l, [], none⟩ (sets fs ps.toList args) from by rw [hsets]; rfl]
  refine wpIn_mono h' ?_
  rintro e a w1 ⟨ds, fs1, rfl, rfl, rfl, r, g1, g2, g3⟩
  refine ⟨_, run_beginRound g1 g2, ?_⟩
  have g3' : body.wpIn (rf (some l)) 0 P (den P ⟨some l, [], none⟩ (fin P fnR RF) [.out fun e _ _ w => roundEnd K l e w]) (act ⟨some l, [], none⟩ fs1) (w1.putObj l (.loop { r with state := .busy })) := g3
  refine wpIn_mono g3' ?_
  rintro e a w2 ⟨ds, fs2, rfl, hq⟩
  cases e with
  | normal => obtain ⟨r, q1, q2⟩ := hq; exact ⟨_, _, run_endRound none q1, .inl ⟨_, rfl, q2⟩⟩
  | ret => obtain ⟨r, q1, q2⟩ := hq; exact ⟨_, _, run_endRound (some .ret) q1, .inl ⟨_, rfl, q2⟩⟩
  | exit id => obtain ⟨r, q1, q2⟩ := hq; exact ⟨_, _, run_endRound (some (.exit id)) q1, .inl ⟨_, rfl, q2⟩⟩
  | _ => exact hq.elim
end Go.Wk
