/-
  A map that is ranged over: in whatever order its entries come.
-/
import Derived.Test.YtpcilobbohokcaaPkpMap
import Derived.Maps.RangeRun
set_option linter.unusedSimpArgs false
set_option linter.unusedVariables false
namespace Go.Wk
open Go
variable {P : Program} {T : Tab}
/-- A map, as the row of its entries; each was laid in ahead of the clock, no two at once. -/
def MapW (w : World) (r : Nat) (l : List (Value × Value)) : Prop := ∃ es clock, w.heap[r]? = some (.map es clock) ∧ entriesOf es = l ∧ (∀ x ∈ es.toList, x.born < clock) ∧ (es.toList.map (·.born)).Nodup
theorem MapW.at {w : World} {r : Nat} {l : List (Value × Value)} (h : MapW w r l) : MapAt w r l := by obtain ⟨es, c, h1, h2, _⟩ := h; exact ⟨es, c, h1, h2⟩
theorem MapW.mod {S : List Nat} {w w' : World} {r : Nat} {l : List (Value × Value)} (h : MapW w r l) (hm : Mod S w w') (hn : r ∉ S) : MapW w' r l := by
  obtain ⟨es, c, h1, h2⟩ := h
  exact ⟨es, c, hm.get h1 hn, h2⟩
theorem MapW.lt {w : World} {r : Nat} {l : List (Value × Value)} (h : MapW w r l) : r < w.heap.size := h.at.lt
/-- An iterator at r over the map at m: 'left' is what it has not handed out. -/
def ItAt (w : World) (r m : Nat) (left : List (Value × Value)) : Prop := ∃ since seen c0 es clock, w.heap[r]? = some (.mapIter (some m) since seen c0) ∧ w.heap[m]? = some (.map es clock) ∧ (∀ x ∈ es.toList, x.born < since) ∧ since ≤ c0 ∧ since ≤ clock ∧ (es.toList.map (·.born)).Nodup ∧ ((leftOf es seen).toList.map fun e => (e.key, e.val)) = left
theorem ItAt.mod {S : List Nat} {w w' : World} {r m : Nat} {l : List (Value × Value)} (h : ItAt w r m l) (hm : Mod S w w') (hr : r ∉ S) (hn : m ∉ S) : ItAt w' r m l := by
  obtain ⟨a, b, c, d, e, h1, h2, h3⟩ := h
  exact ⟨a, b, c, d, e, hm.get h1 hr, hm.get h2 hn, h3⟩
theorem ItAt.lt {w : World} {r m : Nat} {l : List (Value × Value)} (h : ItAt w r m l) : r < w.heap.size ∧ m < w.heap.size := by
  obtain ⟨a, b, c, d, e, h1, h2, _⟩ := h
  exact ⟨ltOf h1, ltOf h2⟩
theorem hold_makeMapW {V : Env} {R : Ending → World → Prop} {F : Exit → Act → World → Prop} {all rest : List Oper} {o : Oper} {k : List KI} {fs : List Value} {w : World} {t : Nat}
    (ho : o.op = .makeMap t none) (h : ∀ w', MapW w' w.heap.size [] → Mod [] w w' → Hold P T V R F (.ops all rest) k (put fs o.dst (.map (some w.heap.size))) w') : Hold P T V R F (.gop .run all o rest) k fs w := by
  refine hold_val (w' := w.alloc (.map #[] 0)) (fun c => by rw [ho]; simp) ?_ (h _ ⟨#[], 0, heapNew, rfl, by simp, by simp⟩ ((Mod.refl _ _).alloc _))
  obtain ⟨dst, op, ty, pos, aft, g⟩ := o
  simp only at ho; subst ho
  rfl
theorem born_push {es : Array MapEntry} {clock : Nat} {i v : Value} (h1 : ∀ x ∈ es.toList, x.born < clock) (h2 : (es.toList.map (·.born)).Nodup) :
    (∀ x ∈ (es.push { key := i, val := v, born := clock }).toList, x.born < clock + 1) ∧ ((es.push { key := i, val := v, born := clock }).toList.map (·.born)).Nodup := by
  constructor
  · intro x hx
    simp only [Array.toList_push, List.mem_append, List.mem_singleton] at hx
    rcases hx with hx | rfl
    · have := h1 x hx; omega
    · simp
  · simp only [Array.toList_push, List.map_append, List.map_cons, List.map_nil]
    rw [List.nodup_append]
    refine ⟨h2, by simp, ?_⟩
    intro a ha b hb
    obtain ⟨x, hx, rfl⟩ := List.mem_map.1 ha
    have := h1 x hx
    simp only [List.mem_singleton] at hb
    omega
theorem hold_insertW (hP : Ok P T) {V : Env} {R : Ending → World → Prop} {F : Exit → Act → World → Prop} {all rest : List Oper} {o : Oper} {k : List KI} {fs : List Value} {w : World} {t kt et r : Nat} {m x y : Operand} {i v : Value} {l : List (Value × Value)}
    (ho : o.op = .insert t m x y ∨ o.op = .mapUpdate t m x y) (hk : kOf T t = .map kt et) (hm : ev fs m = .map (some r)) (hx : ev fs x = i) (hy : ev fs y = v) (hl : MapW w r l) (hi : keyB (kOf T kt) i = true) (hks : keysB (kOf T kt) (l.map (·.1)) = true) (hno : mfind i l = none)
    (h : ∀ w', MapW w' r (l ++ [(i, v)]) → Mod [r] w w' → Hold P T V R F (.ops all rest) k (put fs o.dst undef) w') : Hold P T V R F (.gop .run all o rest) k fs w := by
  obtain ⟨es, c, h1, rfl, h3, h4⟩ := hl
  have hb := born_push (i := i) (v := v) h3 h4
  refine hold_skip (w' := w.putObj r (.map (es.push { key := i, val := v, born := c }) (c + 1))) (fun c => by rcases ho with ho | ho <;> rw [ho] <;> simp) ?_ (h _ ⟨_, _, heapPe h1, by simp [entriesOf], hb.1, hb.2⟩ ((Mod.refl _ _).put (.inl (by simp)) _))
  have hrun := insert_run hP (v := v) hk h1 hi hks hno
  obtain ⟨dst, op, ty, pos, aft, g⟩ := o
  rcases ho with ho | ho
  · simp only at ho; subst ho
    simp only [execOp, ev_eq, hm, hx, hy, Sem.run_bind, hrun, Result.andThen_ok, Sem.run_pure]
  · simp only at ho; subst ho
    simp only [execOp, ev_eq, hm, hx, hy, Sem.run_bind, hrun, Result.andThen_ok, Sem.run_pure]
/-- The entry that the last step handed out. -/
def EntAt (w : World) (r m : Nat) (key val : Value) : Prop := ∃ since seen es clock e, w.heap[r]? = some (.mapIter (some m) since (Array.push seen (MapEntry.born e)) clock) ∧ w.heap[m]? = some (.map es clock) ∧ e ∈ es.toList ∧ (es.toList.map (·.born)).Nodup ∧ e.key = key ∧ e.val = val
theorem EntAt.mod {S : List Nat} {w w' : World} {r m : Nat} {x y : Value} (h : EntAt w r m x y) (hm : Mod S w w') (hr : r ∉ S) (hn : m ∉ S) : EntAt w' r m x y := by
  obtain ⟨a, b, c, d, e, h1, h2, h3⟩ := h
  exact ⟨a, b, c, d, e, hm.get h1 hr, hm.get h2 hn, h3⟩
end Go.Wk
