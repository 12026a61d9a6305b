/-
  'm[i] = v' of a key that the map has.
-/
import Derived.Test.YtcikecociiebkaaGreatDoorQbMpr
set_option linter.unusedSimpArgs false
set_option linter.unusedVariables false
namespace Go.Wk
open Go
variable {P : Program} {T : Tab}
theorem ent_modify {es : Array MapEntry} {j : Nat} {i v : Value} (hj : j < es.size) : entriesOf (es.modify j fun e => { e with key := i, val := v }) = (entriesOf es).set j (i, v) := by
  apply List.ext_getElem?
  intro n
  unfold entriesOf
  rw [List.getElem?_set, List.getElem?_map, List.getElem?_map]
  simp only [Array.getElem?_toList, Array.getElem?_modify]
  by_cases h : j = n
  · subst h
    simp [hj]
  · simp [h]
theorem born_modify {es : Array MapEntry} {j : Nat} {i v : Value} : (es.modify j fun e => { e with key := i, val := v }).toList.map (·.born) = es.toList.map (·.born) := by
  apply List.ext_getElem?
  intro n
  rw [List.getElem?_map, List.getElem?_map]
  simp only [Array.getElem?_toList, Array.getElem?_modify]
  by_cases h : j = n
  · subst h
    simp only [if_true]
    cases es[j]? <;> rfl
  · simp [h]
theorem update_run (hP : Ok P T) {w : World} {r t kt et clock : Nat} {es : Array MapEntry} {i v v0 : Value} {a b : List (Value × Value)} (hk : kOf T t = .map kt et) (hb : w.heap[r]? = some (.map es clock)) (hi : keyB (kOf T kt) i = true) (hks : keysB (kOf T kt) ((entriesOf es).map (·.1)) = true)
    (he : entriesOf es = a ++ (i, v0) :: b) (ha : ∀ x ∈ a, x.1 ≠ i) (hbn : ∀ x ∈ b, x.1 ≠ i) :
    (Instr.mapUpdate t (.map (some r)) i v).run P w = .ok () (w.putObj r (.map (es.modify a.length fun e => { e with key := i, val := v }) clock)) := by
  have hu : P.underlying t = some (.map kt et) := by have := kOk_of hP hk (by simp); exact this
  have hd := under_key hP hi
  have hkeys : ∀ x ∈ es.toList, MapKept.IsKey (descK (kOf T kt)) x.key := by
    have key : ∀ l : List MapEntry, keysB (kOf T kt) ((l.map fun e => (e.key, e.val)).map (·.1)) = true → ∀ x ∈ l, MapKept.IsKey (descK (kOf T kt)) x.key := by
      intro l
      induction l with
      | nil => intro _ x hx; simp at hx
      | cons e l ih =>
        intro h x hx
        simp only [List.map_cons, keysB] at h
        cases hb : keyB (kOf T kt) e.key with
        | false => rw [hb] at h; simp at h
        | true =>
          rw [hb] at h
          simp only [cond_true] at h
          rcases List.mem_cons.1 hx with rfl | hx
          · exact isKey_of hb
          · exact ih h x hx
    exact key _ hks
  have hlen : (entriesOf es)[a.length]? = some (i, v0) := by rw [he]; simp
  rcases MapKept.findNow_spec (isKey_of hi) es.toList 0 hkeys with ⟨_, h2⟩ | ⟨j, e, h1, h2, h3⟩
  · exfalso
    unfold entriesOf at hlen
    rw [List.getElem?_map, Option.map_eq_some_iff] at hlen
    obtain ⟨e, g1, g2⟩ := hlen
    exact h2 e (List.mem_of_getElem? g1) (congrArg Prod.fst g2)
  · have hj : j = a.length := by
      have g : (entriesOf es)[j]? = some (e.key, e.val) := by unfold entriesOf; rw [List.getElem?_map, h2]; rfl
      rw [h3, he] at g
      by_cases c1 : j < a.length
      · rw [List.getElem?_append_left c1] at g
        exact absurd rfl (ha _ (List.mem_of_getElem? g))
      · by_cases c2 : j = a.length
        · exact c2
        · rw [List.getElem?_append_right (by omega)] at g
          obtain ⟨m, hm⟩ : ∃ m, j - a.length = m + 1 := ⟨j - a.length - 1, by omega⟩
          rw [hm, List.getElem?_cons_succ] at g
          exact absurd rfl (hbn _ (List.mem_of_getElem? g))
    have hes : es[j]? = some e := by simpa using h2
    rw [← hj]
    rw [Nat.zero_add] at h1
    simp [Instr.mapUpdate, run_underlying hu, MapKept.run_getObj_map hb, MapKept.run_checkKey hd (isKey_of hi), MapKept.run_findKey hd h1, hes, h3, MapKept.run_keyThatStays (isKey_of hi), MapKept.run_setObj_map _ hb, Result.andThen, World.putObj]
theorem hold_deffS {V : Env} {R : Ending → World → Prop} {F : Exit → Act → World → Prop} {all : List Oper} {m : List Nat} {i : Nat} {o : Oper} {C : List (Nat × Oper)} {pnd : List PR} {k : List KI} {fs : List Value} {w w' : World}
    (hr : (execOp (Act.eval ⟨fs.toArray, []⟩) o).run P w = .ok .skip w') (hs : staysP T m i w' pnd) (h : Hold P T V R F (.dops all m C pnd) k (put fs o.dst undef) w') : Hold P T V R F (.deff none all m i o C pnd) k fs w := by
  show St P T V R F (.deff none all m i o C pnd) k fs w
  intro hv hq hg hC D hD
  have ho : all.toArray[i]? = some o := by simpa using hC (i, o) List.mem_cons_self
  have hC' : COk all C := fun x hx => hC x (List.mem_cons_of_mem _ hx)
  have hst : Stays P (befM m) i D w' := by
    intro r hr hrun hb
    rcases hD r hr hrun with h1 | ⟨p, h1, h2, h3⟩
    · exact h1 w'
    · exact h3 w' (staysP_mem hs h1 (by rw [h2, befN_eq]; exact hb))
  have hD' : POk P T (⟨i, o, undef, fs, false⟩ :: D) pnd := by
    intro r hr hrun
    rcases List.mem_cons.1 hr with rfl | hr
    · simp at hrun
    · exact hD r hr hrun
  exact ⟨o, ho, .inr (.inr ⟨gd_run hg, hq, .inr (.inl ⟨w', hr, hst, (show St P T V R F (.dops all m C pnd) k (put fs o.dst undef) w' from h) hC' _ hD'⟩)⟩)⟩
theorem update_skip (hP : Ok P T) {fs : List Value} {o : Oper} {w : World} {t kt et r : Nat} {m x y : Operand} {i v v0 : Value} {a b : List (Value × Value)}
    (ho : o.op = .insert t m x y ∨ o.op = .mapUpdate t m x y) (hk : kOf T t = .map kt et) (hm : ev fs m = .map (some r)) (hx : ev fs x = i) (hy : ev fs y = v) (hl : MapW w r (a ++ (i, v0) :: b)) (hi : keyB (kOf T kt) i = true) (hks : keysB (kOf T kt) ((a ++ (i, v0) :: b).map (·.1)) = true)
    (ha : ∀ x ∈ a, x.1 ≠ i) (hbn : ∀ x ∈ b, x.1 ≠ i) : ∃ w', (execOp (Act.eval ⟨fs.toArray, []⟩) o).run P w = .ok .skip w' ∧ MapW w' r (a ++ (i, v) :: b) ∧ Mod [r] w w' := by
  obtain ⟨es, c, h1, he, h3, h4⟩ := hl
  have hrun := update_run hP (v := v) hk h1 hi (by rw [he]; exact hks) he ha hbn
  have hlt : a.length < es.size := by
    have := congrArg List.length he
    unfold entriesOf at this
    rw [List.length_map, List.length_append, List.length_cons, Array.length_toList] at this
    omega
  refine ⟨w.putObj r (.map (es.modify a.length fun e => { e with key := i, val := v }) c), ?_, ⟨_, _, heapPe h1, ?_, ?_, ?_⟩, (Mod.refl _ _).put (.inl (by simp)) _⟩
  · obtain ⟨dst, op, ty, pos, aft, g⟩ := o
    rcases ho with ho | ho
    · simp only at ho; subst ho
      simp only [execOp, ev_eq, hm, hx, hy, Sem.run_bind, hrun, Result.andThen_ok, Sem.run_pure]
    · simp only at ho; subst ho
      simp only [execOp, ev_eq, hm, hx, hy, Sem.run_bind, hrun, Result.andThen_ok, Sem.run_pure]
  · rw [ent_modify hlt, he]; simp
  · intro x hx
    have : x.born ∈ (es.modify a.length fun e => { e with key := i, val := v }).toList.map (·.born) := List.mem_map_of_mem hx
    rw [born_modify] at this
    obtain ⟨y, hy, e⟩ := List.mem_map.1 this
    rw [← e]; exact h3 y hy
  · rw [born_modify]; exact h4
theorem hold_dupdateW (hP : Ok P T) {V : Env} {R : Ending → World → Prop} {F : Exit → Act → World → Prop} {all : List Oper} {ms : List Nat} {j : Nat} {o : Oper} {C : List (Nat × Oper)} {pnd : List PR} {k : List KI} {fs : List Value} {w : World} {t kt et r : Nat} {m x y : Operand} {i v v0 : Value} {a b : List (Value × Value)}
    (ho : o.op = .insert t m x y ∨ o.op = .mapUpdate t m x y) (hk : kOf T t = .map kt et) (hm : ev fs m = .map (some r)) (hx : ev fs x = i) (hy : ev fs y = v) (hl : MapW w r (a ++ (i, v0) :: b)) (hi : keyB (kOf T kt) i = true) (hks : keysB (kOf T kt) ((a ++ (i, v0) :: b).map (·.1)) = true)
    (ha : ∀ x ∈ a, x.1 ≠ i) (hbn : ∀ x ∈ b, x.1 ≠ i)
    (h : ∀ w', MapW w' r (a ++ (i, v) :: b) → Mod [r] w w' → staysP T ms j w' pnd ∧ Hold P T V R F (.dops all ms C pnd) k (put fs o.dst undef) w') : Hold P T V R F (.deff none all ms j o C pnd) k fs w := by
  obtain ⟨w', h1, h2, h3⟩ := update_skip hP ho hk hm hx hy hl hi hks ha hbn
  exact hold_deffS h1 (h w' h2 h3).1 (h w' h2 h3).2
theorem lenM {a b r : Nat} : lenV (.map a b) (.map (some r)) = none := by unfold lenV; rfl
theorem exec_lenMap (hP : Ok P T) {fs : List Value} {o : Oper} {w : World} {x : Operand} {t kt et r : Nat} {l : List (Value × Value)} (ho : o.op = .call ⟨.builtin .len, #[x], #[t]⟩) (hk : kOf T t = .map kt et) (hx : ev fs x = .map (some r)) (hl : MapAt w r l) :
    (execOp (Act.eval ⟨fs.toArray, []⟩) o).run P w = .ok (.value (.int .i64 (l.length : Nat))) w := by
  obtain ⟨ty, cs, hr⟩ := exec_builtin (P := P) (fs := fs) ho w
  have hu : P.underlying t = some (.map kt et) := by have := kOk_of hP hk (by simp); exact this
  obtain ⟨es, c, h1, h2⟩ := hl
  have hn : es.size = l.length := by rw [← h2]; unfold entriesOf; simp
  rw [hr]
  simp only [evs, hx]
  simp [builtin, Builtin.len_, run_underlying hu, MapKept.run_getObj_map h1, Result.andThen, goInt, hn]
theorem hold_lenMap (hP : Ok P T) {V : Env} {R : Ending → World → Prop} {F : Exit → Act → World → Prop} {all rest : List Oper} {o : Oper} {k : List KI} {fs : List Value} {w : World} {x : Operand} {t kt et r : Nat} {l : List (Value × Value)} (ho : o.op = .call ⟨.builtin .len, #[x], #[t]⟩) (hk : kOf T t = .map kt et) (hx : ev fs x = .map (some r)) (hl : MapAt w r l)
    (h : Hold P T V R F (.ops all rest) k (put fs o.dst (.int .i64 (l.length : Nat))) w) : Hold P T V R F (.gop .run all o rest) k fs w :=
  hold_val (fun c => by rw [ho]; simp) (exec_lenMap hP ho hk hx hl) h
theorem hold_lenMapQ (hP : Ok P T) {V : Env} {R : Ending → World → Prop} {F : Exit → Act → World → Prop} {all rest : List Oper} {o : Oper} {k : List KI} {fs : List Value} {w : World} {x : Operand} {t kt et r : Nat} {l : List (Value × Value)} (ho : o.op = .call ⟨.builtin .len, #[x], #[t]⟩) (hk : kOf T t = .map kt et) (hx : ev fs x = .map (some r)) (hl : MapAt w r l)
    (h : Hold P T V R F (.qops all rest) k (put fs o.dst (.int .i64 (l.length : Nat))) w) : Hold P T V R F (.qgop .run all o rest) k fs w :=
  hold_qval (fun m => exec_lenMap hP ho hk hx (show MapAt (w.drewN m) r l from hl)) h
end Go.Wk
