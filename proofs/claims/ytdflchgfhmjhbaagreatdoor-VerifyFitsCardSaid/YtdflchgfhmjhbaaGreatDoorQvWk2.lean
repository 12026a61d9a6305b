import Derived.Test.YtdflchgfhmjhbaaGreatDoorQvWk
set_option linter.unusedSimpArgs false
set_option linter.unusedVariables false
namespace Go.Wk
open Go
variable {P : Program} {T : Tab}
theorem run_strct (hP : Ok P T) {t : Nat} {fs : List (Nat × Nat × Nat)} {a b : Nat} {z : List Value} (ht : T t = some ⟨.strct fs, a, b, z⟩) :
    ∃ fields, P.underlying t = some (.struct fields) ∧ ∀ f off sz ft, fldOf fs f = some (off, sz, ft) → ∃ fd, fields[f]? = some fd ∧ fd.offset = off ∧ fd.type = ft ∧ (P.info? ft).map (·.size) = some sz := by
  obtain ⟨fields, h1, h2, _⟩ := (hP.types t _ ht).kind
  refine ⟨fields, h1, fun f off sz ft hf => ?_⟩
  rw [fldOf_eq] at hf
  have h3 := congrArg (fun l => l[f]?) h2
  simp only [List.getElem?_map, hf, Option.map_some] at h3
  rw [Array.getElem?_toList] at h3
  cases hx : fields[f]? with
  | none => rw [hx] at h3; simp at h3
  | some fd =>
    rw [hx] at h3; simp at h3
    obtain ⟨h4, h5, h6⟩ := h3
    exact ⟨fd, rfl, h4, h6, by rw [← h6]; simpa using h5⟩
theorem fldAddrV_run (hP : Ok P T) {s f : Nat} {x v : Value} (h : fldAddrV T s x f = some v) (w : World) : (Instr.fieldAt s x f).run P w = .ok v w := by
  unfold fldAddrV at h
  split at h
  · rename_i fs a b z ad ht
    split at h
    · rename_i off n ft hf
      obtain ⟨fields, h1, h2⟩ := run_strct hP ht
      obtain ⟨fd, h3, h4, h5, h6⟩ := h2 _ _ _ _ hf
      simp only [Option.some.injEq] at h
      subst h
      have hsz : (sizeOf fd.type).run P w = .ok (n + 1) w := by
        cases hi : P.info? ft with
        | none => rw [hi] at h6; simp at h6
        | some inf => rw [hi] at h6; simp at h6; simp [sizeOf, typeInfo, h5, hi, h6]
      simp [Instr.fieldAt, run_underlying h1, h3, Instr.sureAddr, fieldPlace, hsz, h4, addA_eq]
    · simp at h
  · simp at h
theorem fldV_run (hP : Ok P T) {s f : Nat} {x v : Value} (h : fldV T s x f = some v) (w : World) : (Instr.field s x f).run P w = .ok v w := by
  unfold fldV at h
  split at h
  · rename_i fs a b z cs ht
    split at h
    · rename_i off n ft hf
      obtain ⟨fields, h1, h2⟩ := run_strct hP ht
      obtain ⟨fd, h3, h4, h5, h6⟩ := h2 _ _ _ _ hf
      have := partV_run hP h w
      simp [Instr.field, run_underlying h1, h3, asAgg, h4, h5, this]
    · simp at h
  · simp at h
theorem extV_run {x v : Value} {n : Nat} (h : extV x n = some v) (w : World) : (Instr.extract x n).run P w = .ok v w := by
  cases x with
  | tuple vs =>
    simp only [extV] at h
    have h2 := List.getElem?_drop (xs := vs.toList) (i := n) (j := 0)
    cases hd : vs.toList.drop n with
    | nil => rw [hd] at h; simp at h
    | cons v' r =>
      rw [hd] at h h2
      simp only [Option.some.injEq] at h; subst h
      have : vs[n]? = some v' := by rw [← Array.getElem?_toList]; simpa using h2.symm
      simp [Instr.extract, this]
  | _ => simp [extV] at h
theorem convV_run (hP : Ok P T) {s d : Nat} {x v : Value} (h : convV T s d x = some v) (w : World) : (convert s d x).run P w = .ok v w := by
  unfold convV at h
  split at h
  · rename_i h1 h2
    have u1 := kOk_of hP h1 (by simp); have u2 := kOk_of hP h2 (by simp)
    simp only [KOk] at u1 u2
    simp only [Option.some.injEq] at h; subst h
    simp [convert, run_underlying u1, run_underlying u2, Conv.intToInt]
  · rename_i h1 h2
    have u1 := kOk_of hP h1 (by simp); have u2 := kOk_of hP h2 (by simp)
    simp only [KOk] at u1 u2
    simp only [Option.some.injEq] at h; subst h
    simp [convert, run_underlying u1, run_underlying u2]
  · simp at h
theorem mkIface_run (hP : Ok P T) {t : Nat} {x v : Value} (h : mkIface T t x = some v) (w : World) : (Instr.makeInterface t x).run P w = .ok v w := by
  unfold mkIface at h
  split at h
  · simp at h
  · simp at h
  · rename_i k hk1 hk2
    simp only [Option.some.injEq] at h; subst h
    have hk := kOk_of hP (t := t) rfl (by intro hh; exact hk2 hh)
    cases hkk : kOf T t <;> rw [hkk] at hk <;> simp only [KOk] at hk
    · simp [Instr.makeInterface, run_underlying hk]
    · simp [Instr.makeInterface, run_underlying hk]
    · simp [Instr.makeInterface, run_underlying hk]
    · simp [Instr.makeInterface, run_underlying hk]
    · simp [Instr.makeInterface, run_underlying hk]
    · obtain ⟨_, hk, _⟩ := hk; simp [Instr.makeInterface, run_underlying hk]
    · simp [Instr.makeInterface, run_underlying hk]
    · exact absurd hkk hk1
    · simp [Instr.makeInterface, run_underlying hk]
    · obtain ⟨_, _, _, hk⟩ := hk; simp [Instr.makeInterface, run_underlying hk]
    · exact absurd hkk hk2
theorem lenV_run (hP : Ok P T) {t : Nat} {x v : Value} {ts : Array Nat} {as : Array Value} (h : lenV (kOf T t) x = some v) (h0 : ts[0]? = some t) (h1 : as[0]? = some x) (ty : Nat) (w : World) :
    (Builtin.len_ ts ty as).run P w = .ok v w := by
  unfold lenV at h
  split at h
  all_goals first | (simp only [reduceCtorEq] at h; done) | skip
  all_goals
    rename_i hk
    first | have hu := kOk_of hP hk (by simp) | have hu := kOk_of hP (by assumption) (by simp)
    simp only [KOk] at hu
    simp only [Option.some.injEq] at h; subst h
    simp [Builtin.len_, h0, h1, run_underlying hu, goInt] <;> rfl
theorem mm_run (mx : Bool) (r : List Value) : ∀ {x v : Value}, mm mx x r = some v → ∀ (w : World), (r.foldlM (cond mx Builtin.max2 Builtin.min2) x).run P w = .ok v w := by
  induction r with
  | nil => intro x v h w; simp only [mm, Option.some.injEq] at h; subst h; simp
  | cons y r ih =>
    intro x v h w
    unfold mm at h
    split at h
    · rename_i hx; simp at hx
    · rename_i k a k' b rr hx
      simp only [List.cons.injEq] at hx
      obtain ⟨rfl, rfl⟩ := hx
      cases hk : kEq k k' with
      | false => rw [hk] at h; simp at h
      | true =>
        rw [hk, cond_true] at h
        have := ih h w
        cases mx
        · simp only [cond_false] at this ⊢
          rw [show (min a b) = (if b < a then b else a) from by omega] at this
          simpa [List.foldlM, Builtin.min2] using this
        · simp only [cond_true] at this ⊢
          rw [show (max a b) = (if b > a then b else a) from by omega] at this
          simpa [List.foldlM, Builtin.max2] using this
    · simp at h
theorem builtV_run (hP : Ok P T) {b : Builtin} {ts : Array Nat} {as : Array Value} {v : Value} (h : builtV T b ts.toList as.toList = some v) (ty : Nat) (cs : Array Bool) (w : World) :
    (builtin b ts ty cs as).run P w = .ok (.value v) w := by
  unfold builtV at h
  split at h
  · rename_i t tr x xr ht hx
    have h0 : ts[0]? = some t := by rw [← Array.getElem?_toList, ht]; rfl
    have h1 : as[0]? = some x := by rw [← Array.getElem?_toList, hx]; rfl
    simp [builtin, lenV_run hP h h0 h1 ty w]
  · rename_i x xr hx
    have := mm_run (P := P) true xr h w
    simp only [cond_true] at this
    simp [builtin, Builtin.max_, hx, this]
  · rename_i x xr hx
    have := mm_run (P := P) false xr h w
    simp only [cond_false] at this
    simp [builtin, Builtin.min_, hx, this]
  · simp at h
theorem nilV_run {x v : Value} (h : nilV x = some v) (w : World) :
    (match x with
    | .pointer none | .nilIface | .nilFunc => (runtimePanic .nilDeref : Sem Next)
    | .func (.method name) first captured =>
      match (first[0]? : Option Value) with
      | some .nilIface => runtimePanic .nilDeref
      | some (.iface t w) => do
        if (← nilAhead ((← program).types.size + Made.depth) t w name) != some false then
          unsupported (.noEntry "op/nilCheck.the method's receiver behind this interface value is a nil pointer, or cannot be seen to be none, and the arguments act or may panic (ledger 612)")
        pure (.value (.func (.method name) first captured))
      | _ => pure (.value (.func (.method name) first captured))
    | x => pure (.value x)).run P w = .ok (.value v) w := by
  unfold nilV at h
  split at h <;> simp only [Option.some.injEq, reduceCtorEq] at h <;> subst h <;> rfl
theorem pureV_run (hP : Ok P T) {fs : List Value} {ds : List Deferred} {o : Oper} {v : Value} (h : pureV T fs o.op = some v) (w : World) :
    (execOp (Act.eval ⟨fs.toArray, ds⟩) o).run P w = .ok (.value v) w := by
  obtain ⟨dst, op, ty, pos, aft, g⟩ := o
  unfold execOp
  simp only at h ⊢
  cases op with
  | move x => simp [pureV] at h; simp [ev_eq, h]
  | assign x => simp [pureV] at h; simp [ev_eq, h]
  | pick c a b =>
    simp only [pureV] at h
    unfold pickV at h
    split at h <;> simp only [Option.some.injEq, reduceCtorEq] at h <;> rename_i hc <;> subst h <;> simp [ev_eq, hc, asBool]
  | nilCheck x => simp only [pureV] at h; simp only [ev_eq]; exact nilV_run h w
  | binOp op t x y yt => simp only [pureV] at h; simp [ev_eq, binV_run hP h, eqGuard_run hP h]
  | unOp op t x =>
    simp only [pureV] at h
    unfold unV at h
    split at h <;> simp only [Option.some.injEq, reduceCtorEq] at h
    rename_i hx; subst h; simp [ev_eq, hx, Op.unary, bnot_eq]
  | convert s d x => simp only [pureV] at h; simp [ev_eq, convV_run hP h]
  | fieldAddr s x f => simp only [pureV] at h; simp [ev_eq, fldAddrV_run hP h]
  | field s x f => simp only [pureV] at h; simp [ev_eq, fldV_run hP h]
  | extract t n => simp only [pureV] at h; simp [ev_eq, extV_run h]
  | makeInterface t x => simp only [pureV] at h; simp [ev_eq, mkIface_run hP h]
  | makeFunc fn first cap =>
    simp only [pureV, Option.some.injEq] at h; subst h
    have e1 : first.map (Act.eval ⟨fs.toArray, ds⟩) = (evs fs first.toList).toArray := by apply Array.ext'; simp [← evs_eq fs ds]
    have e2 : cap.map (Act.eval ⟨fs.toArray, ds⟩) = (evs fs cap.toList).toArray := by apply Array.ext'; simp [← evs_eq fs ds]
    simp [Instr.makeFunc, e1, e2]
  | call c =>
    obtain ⟨cal, as, ts⟩ := c
    cases cal with
    | builtin b =>
      simp only [pureV] at h
      have e1 : as.map (Act.eval ⟨fs.toArray, ds⟩) = (evs fs as.toList).toArray := by apply Array.ext'; simp [← evs_eq fs ds]
      simp only [resolve, e1]
      simp only [invoke]
      simp only [Sem.run_bind, Sem.run_pure, Result.andThen_ok]
      exact builtV_run (P := P) hP (ts := ts) (as := (evs fs as.toList).toArray) (b := b) (v := v) (by simpa using h) ty _ w
    | value f => simp [pureV] at h
    | invoke a b => simp [pureV] at h
  | _ => simp [pureV] at h
end Go.Wk
