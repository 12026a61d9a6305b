/-
  Maps.
-/
import Derived.Test.YtoladcdelaemoaaQdRec
set_option linter.unusedSimpArgs false
set_option linter.unusedVariables false
namespace Go.Wk
open Go
variable {P : Program} {T : Tab}
/-- An operation without a value, by its run. -/
theorem hold_skip {V : Env} {R : Ending → World → Prop} {F : Exit → Act → World → Prop} {all rest : List Oper} {o : Oper} {k : List KI} {fs : List Value} {w w' : World}
    (hd : ∀ c, o.op ≠ .defer c) (hr : (execOp (Act.eval ⟨fs.toArray, []⟩) o).run P w = .ok .skip w') (h : Hold P T V R F (.ops all rest) k (put fs o.dst undef) w') : Hold P T V R F (.gop .run all o rest) k fs w := by
  have hr' : (execOp (act V fs).eval o).run P w = .ok .skip w' := by
    have e : (act V fs).eval = (Act.eval ⟨fs.toArray, []⟩) := by funext x; exact (ev_eq fs V.ds x).trans (ev_eq fs [] x).symm
    rw [e]; exact hr
  have h' : wpListIn (rf V.ro) 0 P all.toArray (den P V F k) rest (act V (put fs o.dst undef)) w' := h
  rw [← act_put] at h'
  exact VRes.wpIn (a := act V fs) hd (.inr (.inl ⟨w', hr', h'⟩))
/-- A map, as the row of its entries. -/
def MapAt (w : World) (r : Nat) (l : List (Value × Value)) : Prop := ∃ es clock, w.heap[r]? = some (.map es clock) ∧ entriesOf es = l
theorem MapAt.mod {S : List Nat} {w w' : World} {r : Nat} {l : List (Value × Value)} (h : MapAt w r l) (hm : Mod S w w') (hn : r ∉ S) : MapAt w' r l := by
  obtain ⟨es, c, h1, h2⟩ := h
  exact ⟨es, c, hm.get h1 hn, h2⟩
theorem MapAt.lt {w : World} {r : Nat} {l : List (Value × Value)} (h : MapAt w r l) : r < w.heap.size := by obtain ⟨es, c, h1, _⟩ := h; exact ltOf h1
theorem look_at {w : World} {r t kt et : Nat} {l : List (Value × Value)} {i : Value} {ok : Bool} (h : MapAt w r l) (hk : kOf T t = .map kt et) : lookV T t (.map (some r)) i ok w = lookZ T kt et ok i l := by
  obtain ⟨es, c, h1, h2⟩ := h
  unfold lookV
  rw [hk]
  simp only [h1, h2]
theorem lookAlloc {w : World} {r t : Nat} {i : Value} {ok : Bool} {o : Obj} (h : r < w.heap.size) : lookV T t (.map (some r)) i ok (w.alloc o) = lookV T t (.map (some r)) i ok w := by
  have e := heapAn (w := w) (o := o) (show r ≠ w.heap.size by omega)
  unfold lookV
  cases kOf T t with
  | map kt et => simp only [e]
  | _ => rfl
theorem lookSet {w : World} {r t b off : Nat} {i v : Value} {ok : Bool} : lookV T t (.map (some r)) i ok (w.setCell ⟨b, off, none⟩ v) = lookV T t (.map (some r)) i ok w := by
  have key : ∀ es c, (w.setCell ⟨b, off, none⟩ v).heap[r]? = some (.map es c) ↔ w.heap[r]? = some (.map es c) := by
    intro es c
    unfold World.setCell
    simp only [Array.getElem?_modify]
    by_cases hb : b = r
    · subst hb
      simp only [if_true]
      cases hh : w.heap[b]? with
      | none => simp
      | some o => cases o <;> simp
    · simp [hb]
  unfold lookV
  cases hk : kOf T t with
  | map kt et =>
    simp only
    cases h1 : w.heap[r]? with
    | none =>
      cases h2 : (w.setCell ⟨b, off, none⟩ v).heap[r]? with
      | none => rfl
      | some o => cases o with
        | map es c => rw [(key es c).1 h2] at h1; simp at h1
        | _ => rfl
    | some o => cases o with
      | map es c => rw [(key es c).2 h1]
      | _ =>
        cases h2 : (w.setCell ⟨b, off, none⟩ v).heap[r]? with
        | none => rfl
        | some o => cases o with
          | map es c => rw [(key es c).1 h2] at h1; simp at h1
          | _ => rfl
  | _ => rfl
/-- 'make(map..)'. -/
theorem hold_makeMap {V : Env} {R : Ending → World → Prop} {F : Exit → Act → World → Prop} {all rest : List Oper} {o : Oper} {k : List KI} {fs : List Value} {w : World} {t : Nat}
    (ho : o.op = .makeMap t none) (h : ∀ w', MapAt w' w.heap.size [] → Mod [] w w' → Hold P T V R F (.ops all rest) k (put fs o.dst (.map (some w.heap.size))) w') : Hold P T V R F (.gop .run all o rest) k fs w := by
  refine hold_val (w' := w.alloc (.map #[] 0)) (fun c => by rw [ho]; simp) ?_ (h _ ⟨#[], 0, heapNew, rfl⟩ ((Mod.refl _ _).alloc _))
  obtain ⟨dst, op, ty, pos, aft, g⟩ := o
  simp only at ho; subst ho
  rfl
theorem insert_run (hP : Ok P T) {w : World} {r t kt et clock : Nat} {es : Array MapEntry} {i v : Value} (hk : kOf T t = .map kt et) (hb : w.heap[r]? = some (.map es clock)) (hi : keyB (kOf T kt) i = true) (hks : keysB (kOf T kt) ((entriesOf es).map (·.1)) = true) (hno : mfind i (entriesOf es) = none) :
    (Instr.mapUpdate t (.map (some r)) i v).run P w = .ok () (w.putObj r (.map (es.push { key := i, val := v, born := clock }) (clock + 1))) := by
  have hu : P.underlying t = some (.map kt et) := by have := kOk_of hP hk (by simp); exact this
  have hd := under_key hP hi
  have hf := find_m hi es.toList 0 hks
  unfold entriesOf at hno
  rw [hno] at hf
  simp only at hf
  simp [Instr.mapUpdate, run_underlying hu, MapKept.run_getObj_map hb, MapKept.run_checkKey hd (isKey_of hi), MapKept.run_findKey hd hf, MapKept.run_setObj_map _ hb, Result.andThen, World.putObj]
/-- 'm[i] = v' of a key that the map has not. -/
theorem hold_insert (hP : Ok P T) {V : Env} {R : Ending → World → Prop} {F : Exit → Act → World → Prop} {all rest : List Oper} {o : Oper} {k : List KI} {fs : List Value} {w : World} {t kt et r : Nat} {m x y : Operand} {i v : Value} {l : List (Value × Value)}
    (ho : o.op = .insert t m x y ∨ o.op = .mapUpdate t m x y) (hk : kOf T t = .map kt et) (hm : ev fs m = .map (some r)) (hx : ev fs x = i) (hy : ev fs y = v) (hl : MapAt w r l) (hi : keyB (kOf T kt) i = true) (hks : keysB (kOf T kt) (l.map (·.1)) = true) (hno : mfind i l = none)
    (h : ∀ w', MapAt w' r (l ++ [(i, v)]) → Mod [r] w w' → Hold P T V R F (.ops all rest) k (put fs o.dst undef) w') : Hold P T V R F (.gop .run all o rest) k fs w := by
  obtain ⟨es, c, h1, rfl⟩ := hl
  refine hold_skip (w' := w.putObj r (.map (es.push { key := i, val := v, born := c }) (c + 1))) (fun c => by rcases ho with ho | ho <;> rw [ho] <;> simp) ?_ (h _ ⟨_, _, heapPe h1, by simp [entriesOf]⟩ ((Mod.refl _ _).put (.inl (by simp)) _))
  have hrun := insert_run hP (v := v) hk h1 hi hks hno
  obtain ⟨dst, op, ty, pos, aft, g⟩ := o
  rcases ho with ho | ho
  · simp only at ho; subst ho
    simp only [execOp, ev_eq, hm, hx, hy, Sem.run_bind, hrun, Result.andThen_ok, Sem.run_pure]
  · simp only at ho; subst ho
    simp only [execOp, ev_eq, hm, hx, hy, Sem.run_bind, hrun, Result.andThen_ok, Sem.run_pure]
end Go.Wk
