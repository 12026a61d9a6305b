import Derived.Test.YtdflchgfhmjhbaaGreatDoorQvWk3
set_option linter.unusedSimpArgs false
set_option linter.unusedVariables false
namespace Go.Wk
open Go
variable {P : Program} {T : Tab}
/-! ### the walk -/
inductive G where | run | skip
def gsel : Value → Bool → G
  | .bool true, true => .run
  | .bool true, false => .skip
  | .bool false, true => .skip
  | .bool false, false => .run
  | _, _ => .skip
def dstOf : List Oper → Nat → Option Nat
  | [], _ => none
  | o :: _, 0 => o.dst
  | _ :: os, n + 1 => dstOf os n
def gd (all : List Oper) (fs : List Value) (o : Oper) : G :=
  match o.guard with
  | none => .run
  | some (j, want) => (match dstOf all j with | some d => gsel (get fs d) want | none => .skip)
def csel : Value → Code → Code → Code
  | .bool true, a, _ => a
  | .bool false, _, b => b
  | _, _, _ => .refuse ""
def evo (fs : List Value) : Option Operand → Option Value
  | none => none
  | some x => some (ev fs x)
/-- The fence that lets all in: of an activation (none), or of a round of loop l. -/
def rf (r : Option Nat) : Fence := { fn := fun _ => True, depth := none, alive := false, round := r }
theorem wpIn_rf {c : Code} {Q : Exit → Act → World → Prop} {a : Act} {w : World} : c.wpIn (rf none) 0 P Q a w ↔ c.wp P Q a w := wpIn_wide (n := 0)
theorem callsIn_rf {r : Option Nat} {f : Nat} {args : Array Value} {w : World} {R : Ending → World → Prop} : CallsIn (rf r) 0 P f args w R ↔ Calls P f args w R := callsIn_wide (n := 0)
/-- A round of loop l, by what yield hands back. -/
def yieldW (P : Program) (l : Nat) (args : Array Value) (w : World) (K : Value → World → Prop) (E : List PanicEntry → World → Prop) : Prop :=
  ∃ fn tmps assign body, (Instr.yield l args).run P w = .ok (.round l fn tmps assign body) w ∧
    RoundIn (rf none) 0 P l fn tmps assign body w (fun e w' => (∃ v, e = .returned v ∧ K v w') ∨ (∃ ch, e = .panicked ch ∧ E ch w'))
theorem roundIn_rf {r : Option Nat} {l f : Nat} {tmps : Array Value} {assign body : Code} {w : World} {R : Ending → World → Prop} (h : RoundIn (rf none) 0 P l f tmps assign body w R) : RoundIn (rf r) 0 P l f tmps assign body w R := h
def callV (P : Program) (f : Value) (args : List Value) (w : World) (K : Value → World → Prop) (E : List PanicEntry → World → Prop) : Prop :=
  match f with
  | .func (.func f) first cap => FOk P f ∧ callW P f (first.toList ++ args ++ cap.toList).toArray w K E
  | .func (.yield l) first _ => yieldW P l (first.toList ++ args).toArray w K E
  | _ => False
def panW (x : Value) (w : World) (E : List PanicEntry → World → Prop) : Prop :=
  match x with
  | .iface t v => E [{ v := .iface t v, recovered := false }] w
  | _ => False
def isLoud : Op → Bool
  | .load .. => true | .store .. => true | .alloc .. => true | .box .. => true | .binOp .. => true | .index .. => true | .indexAddr .. => true
  | .slice _ _ _ _ none => true
  | .call ⟨.value _, _, _⟩ => true
  | .panic _ => true
  | _ => false
def loudW (P : Program) (T : Tab) (fs : List Value) (op : Op) (w : World) (K : Value → World → Prop) (E : List PanicEntry → World → Prop) : Prop :=
  match op with
  | .load t a => loadW T t (ev fs a) w K
  | .store t a x => storeW T t (ev fs a) (ev fs x) w K
  | .alloc t => allocW T t w K
  | .box t x => boxW t (ev fs x) w K
  | .binOp op t x y _ => binW op (ev fs x) (ev fs y) (fun v => K v w)
  | .index t x i => idxW T t (ev fs x) (ev fs i) (fun v => K v w)
  | .indexAddr t x i => idxAddrW T t (ev fs x) (ev fs i) (fun v => K v w)
  | .slice t x lo hi none => sliceW T t (ev fs x) (evo fs lo) (evo fs hi) (fun v => K v w)
  | .call ⟨.value f, as, _⟩ => callV P (ev fs f) (evs fs as.toList) w K E
  | .panic x => panW (ev fs x) w E
  | _ => False
def VRes (P : Program) (s : Sem Next) (w : World) (K : Value → World → Prop) (E : List PanicEntry → World → Prop) : Prop :=
  (∃ v w', s.run P w = .ok (.value v) w' ∧ K v w') ∨ (∃ w', s.run P w = .ok .skip w' ∧ K undef w') ∨
  (∃ f args, s.run P w = .ok (.enter f args) w ∧ callW P f args w K E) ∨ (∃ l args, s.run P w = (Instr.yield l args).run P w ∧ yieldW P l args w K E) ∨ (∃ v w', s.run P w = .halt (.panic v) w' ∧ E [{ v, recovered := false }] w')
theorem VRes.wpIn {r : Option Nat} {o : Oper} {a : Act} {w : World} {next : Act → World → Prop} {Q : Exit → Act → World → Prop} (hd : ∀ c, o.op ≠ .defer c)
    (h : VRes P (execOp a.eval o) w (fun v w' => next (a.put o.dst v) w') (fun ch w' => Q (.panic ch) a w')) : o.wpIn (rf r) 0 P a w next Q := by
  refine ⟨fun _ _ => trivial, ?_⟩
  have hs : o.semAt (rf r).round a.eval = execOp a.eval o := by
    cases r with
    | none => simp [rf, Oper.semAt]
    | some l => exact Oper.semAt_some l _ _ hd
  rw [hs]
  rcases h with ⟨v, w', h1, h2⟩ | ⟨w', h1, h2⟩ | ⟨f, args, h1, h2⟩ | ⟨l, args, h1, fn, tmps, assign, body, h2, h3⟩ | ⟨v, w', h1, h2⟩
  · rw [h1]; exact h2
  · rw [h1]; exact h2
  · rw [h1]
    refine ⟨fun h => by simp [rf] at h, callsIn_rf.2 ?_⟩
    refine Calls.mono h2 ?_
    rintro e w' (⟨v, rfl, hk⟩ | ⟨ch, rfl, hk⟩)
    · exact hk
    · exact hk
  · rw [h1, h2]
    refine ⟨fun h => by simp [rf] at h, ?_⟩
    refine RoundIn.mono (roundIn_rf h3) ?_
    rintro e w' (⟨v, rfl, hk⟩ | ⟨ch, rfl, hk⟩)
    · exact hk
    · exact hk
  · rw [h1]; exact h2
theorem loudW_defer {fs : List Value} {op : Op} {w : World} {K : Value → World → Prop} {E : List PanicEntry → World → Prop} (h : loudW P T fs op w K E) : ∀ c, op ≠ .defer c := by
  rintro c rfl; exact h
theorem loudW_run (hP : Ok P T) {fs : List Value} {o : Oper} {w : World} {K : Value → World → Prop} {E : List PanicEntry → World → Prop} (h : loudW P T fs o.op w K E) :
    VRes P (execOp (Act.eval ⟨fs.toArray, []⟩) o) w K E := by
  obtain ⟨dst, op, ty, pos, aft, g⟩ := o
  unfold execOp
  simp only at h ⊢
  unfold loudW at h
  split at h
  · obtain ⟨v, h1, h2⟩ := loadW_run hP h
    exact .inl ⟨v, w, by simp [ev_eq, h1], h2⟩
  · obtain ⟨w', h1, h2⟩ := storeW_run hP h
    exact .inr (.inl ⟨w', by simp [ev_eq, h1], h2⟩)
  · obtain ⟨v, w', h1, h2⟩ := allocW_run hP h
    exact .inl ⟨v, w', by simp [ev_eq, h1], h2⟩
  · obtain ⟨v, w', h1, h2⟩ := boxW_run (P := P) h
    exact .inl ⟨v, w', by simp [ev_eq, h1], h2⟩
  · rename_i op t x y yt
    obtain ⟨v, h1, h2⟩ := binW_run (P := P) (t := t) h x y w
    refine .inl ⟨v, w, ?_, h2⟩
    simp only [ev_eq]
    simp only [Sem.run_bind] at h1 ⊢
    rw [show ((Sem.run P (eqGuard op t x y (ev fs x) (ev fs y)) w).andThen fun a w' => Sem.run P (binOp op t (ev fs x) (ev fs y)) w') = .ok v w from h1]
    rfl
  · obtain ⟨v, h1, h2⟩ := idxW_run hP h w
    exact .inl ⟨v, w, by simp [ev_eq, h1], h2⟩
  · obtain ⟨v, h1, h2⟩ := idxAddrW_run hP h w
    exact .inl ⟨v, w, by simp [ev_eq, h1], h2⟩
  · rename_i t x lo hi
    obtain ⟨v, h1, h2⟩ := sliceW_run hP h w
    refine .inl ⟨v, w, ?_, h2⟩
    have e1 : ∀ l : Option Operand, l.map (Act.eval ⟨fs.toArray, []⟩) = evo fs l := by intro l; cases l <;> simp [evo, ev_eq]
    have e3 : evo fs none = none := rfl
    simp [ev_eq, e1, e3, h1]
  · rename_i f as ts
    unfold callV at h
    split at h
    · rename_i f' first cap hf
      obtain ⟨⟨fn, h1, h2, h3⟩, h4⟩ := h
      refine .inr (.inr (.inl ⟨f', _, ?_, h4⟩))
      have e1 : as.map (Act.eval ⟨fs.toArray, []⟩) = (evs fs as.toList).toArray := by apply Array.ext'; simp [← evs_eq fs []]
      have e2 : (first ++ (evs fs as.toList).toArray ++ cap) = (first.toList ++ evs fs as.toList ++ cap.toList).toArray := by apply Array.ext'; simp
      simp only [resolve, e1, ev_eq, hf, Deferred.ofValue, Sem.run_bind, Sem.run_pure, Result.andThen_ok, invoke, callFunc, run_program, h1, h2, h3, Bool.false_eq_true, if_false, e2]
    · rename_i l first cap hf
      refine .inr (.inr (.inr (.inl ⟨l, _, ?_, h⟩)))
      have e1 : as.map (Act.eval ⟨fs.toArray, []⟩) = (evs fs as.toList).toArray := by apply Array.ext'; simp [← evs_eq fs []]
      have e2 : (first ++ (evs fs as.toList).toArray) = (first.toList ++ evs fs as.toList).toArray := by apply Array.ext'; simp
      simp only [resolve, e1, ev_eq, hf, Deferred.ofValue, Sem.run_bind, Sem.run_pure, Result.andThen_ok, invoke, e2]
    · exact h.elim
  · unfold panW at h
    split at h
    · rename_i x t v hx
      exact .inr (.inr (.inr (.inr ⟨_, w, by simp [ev_eq, hx, Instr.panic], h⟩)))
    · exact h.elim
  · exact h.elim
end Go.Wk
