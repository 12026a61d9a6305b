/-
  A map that is ranged over: in whatever order its entries come.
-/
import Derived.Test.YtdflchgfhmjhbaaGreatDoorQvMap
import Derived.Maps.RangeRun
set_option linter.unusedSimpArgs false
set_option linter.unusedVariables false
namespace Go.Wk
open Go
variable {P : Program} {T : Tab}
/-- A map, as the row of its entries; each was laid in ahead of the clock, no two at once. -/
def MapW (w : World) (r : Nat) (l : List (Value × Value)) : Prop := ∃ es clock, w.heap[r]? = some (.map es clock) ∧ entriesOf es = l ∧ (∀ x ∈ es.toList, x.born < clock) ∧ (es.toList.map (·.born)).Nodup
theorem MapW.at {w : World} {r : Nat} {l : List (Value × Value)} (h : MapW w r l) : MapAt w r l := by obtain ⟨es, c, h1, h2, _⟩ := h; exact ⟨es, c, h1, h2⟩
theorem MapW.mod {S : List Nat} {w w' : World} {r : Nat} {l : List (Value × Value)} (h : MapW w r l) (hm : Mod S w w') (hn : r ∉ S) : MapW w' r l := by
  obtain ⟨es, c, h1, h2⟩ := h
  exact ⟨es, c, hm.get h1 hn, h2⟩
theorem MapW.lt {w : World} {r : Nat} {l : List (Value × Value)} (h : MapW w r l) : r < w.heap.size := h.at.lt
/-- An iterator at r over the map at m: 'left' is what it has not handed out. -/
def ItAt (w : World) (r m : Nat) (left : List (Value × Value)) : Prop := ∃ since seen c0 es clock, w.heap[r]? = some (.mapIter (some m) since seen c0) ∧ w.heap[m]? = some (.map es clock) ∧ (∀ x ∈ es.toList, x.born < since) ∧ since ≤ c0 ∧ since ≤ clock ∧ (es.toList.map (·.born)).Nodup ∧ ((leftOf es seen).toList.map fun e => (e.key, e.val)) = left
theorem ItAt.mod {S : List Nat} {w w' : World} {r m : Nat} {l : List (Value × Value)} (h : ItAt w r m l) (hm : Mod S w w') (hr : r ∉ S) (hn : m ∉ S) : ItAt w' r m l := by
  obtain ⟨a, b, c, d, e, h1, h2, h3⟩ := h
  exact ⟨a, b, c, d, e, hm.get h1 hr, hm.get h2 hn, h3⟩
theorem ItAt.lt {w : World} {r m : Nat} {l : List (Value × Value)} (h : ItAt w r m l) : r < w.heap.size ∧ m < w.heap.size := by
  obtain ⟨a, b, c, d, e, h1, h2, _⟩ := h
  exact ⟨ltOf h1, ltOf h2⟩
/-- How much is left. -/
def itLeft (w : World) (r : Nat) : Nat := match w.heap[r]? with
  | some (.mapIter (some m) _ seen _) => (match w.heap[m]? with
    | some (.map es _) => (leftOf es seen).size
    | _ => 0)
  | _ => 0
theorem ItAt.count {w : World} {r m : Nat} {l : List (Value × Value)} (h : ItAt w r m l) : itLeft w r = l.length := by
  obtain ⟨a, b, c, d, e, h1, h2, _, _, _, _, h3⟩ := h
  unfold itLeft
  rw [h1]
  simp only [h2]
  rw [← h3, List.length_map, Array.length_toList]
theorem hold_makeMapW {V : Env} {R : Ending → World → Prop} {F : Exit → Act → World → Prop} {all rest : List Oper} {o : Oper} {k : List KI} {fs : List Value} {w : World} {t : Nat}
    (ho : o.op = .makeMap t none) (h : ∀ w', MapW w' w.heap.size [] → Mod [] w w' → Hold P T V R F (.ops all rest) k (put fs o.dst (.map (some w.heap.size))) w') : Hold P T V R F (.gop .run all o rest) k fs w := by
  refine hold_val (w' := w.alloc (.map #[] 0)) (fun c => by rw [ho]; simp) ?_ (h _ ⟨#[], 0, heapNew, rfl, by simp, by simp⟩ ((Mod.refl _ _).alloc _))
  obtain ⟨dst, op, ty, pos, aft, g⟩ := o
  simp only at ho; subst ho
  rfl
theorem born_push {es : Array MapEntry} {clock : Nat} {i v : Value} (h1 : ∀ x ∈ es.toList, x.born < clock) (h2 : (es.toList.map (·.born)).Nodup) :
    (∀ x ∈ (es.push { key := i, val := v, born := clock }).toList, x.born < clock + 1) ∧ ((es.push { key := i, val := v, born := clock }).toList.map (·.born)).Nodup := by
  constructor
  · intro x hx
    simp only [Array.toList_push, List.mem_append, List.mem_singleton] at hx
    rcases hx with hx | rfl
    · have := h1 x hx; omega
    · simp
  · simp only [Array.toList_push, List.map_append, List.map_cons, List.map_nil]
    rw [List.nodup_append]
    refine ⟨h2, by simp, ?_⟩
    intro a ha b hb
    obtain ⟨x, hx, rfl⟩ := List.mem_map.1 ha
    have := h1 x hx
    simp only [List.mem_singleton] at hb
    omega
theorem hold_insertW (hP : Ok P T) {V : Env} {R : Ending → World → Prop} {F : Exit → Act → World → Prop} {all rest : List Oper} {o : Oper} {k : List KI} {fs : List Value} {w : World} {t kt et r : Nat} {m x y : Operand} {i v : Value} {l : List (Value × Value)}
    (ho : o.op = .insert t m x y ∨ o.op = .mapUpdate t m x y) (hk : kOf T t = .map kt et) (hm : ev fs m = .map (some r)) (hx : ev fs x = i) (hy : ev fs y = v) (hl : MapW w r l) (hi : keyB (kOf T kt) i = true) (hks : keysB (kOf T kt) (l.map (·.1)) = true) (hno : mfind i l = none)
    (h : ∀ w', MapW w' r (l ++ [(i, v)]) → Mod [r] w w' → Hold P T V R F (.ops all rest) k (put fs o.dst undef) w') : Hold P T V R F (.gop .run all o rest) k fs w := by
  obtain ⟨es, c, h1, rfl, h3, h4⟩ := hl
  have hb := born_push (i := i) (v := v) h3 h4
  refine hold_skip (w' := w.putObj r (.map (es.push { key := i, val := v, born := c }) (c + 1))) (fun c => by rcases ho with ho | ho <;> rw [ho] <;> simp) ?_ (h _ ⟨_, _, heapPe h1, by simp [entriesOf], hb.1, hb.2⟩ ((Mod.refl _ _).put (.inl (by simp)) _))
  have hrun := insert_run hP (v := v) hk h1 hi hks hno
  obtain ⟨dst, op, ty, pos, aft, g⟩ := o
  rcases ho with ho | ho
  · simp only at ho; subst ho
    simp only [execOp, ev_eq, hm, hx, hy, Sem.run_bind, hrun, Result.andThen_ok, Sem.run_pure]
  · simp only at ho; subst ho
    simp only [execOp, ev_eq, hm, hx, hy, Sem.run_bind, hrun, Result.andThen_ok, Sem.run_pure]
/-- 'range' over a map. -/
theorem hold_rangeMap (hP : Ok P T) {V : Env} {R : Ending → World → Prop} {F : Exit → Act → World → Prop} {all rest : List Oper} {o : Oper} {k : List KI} {fs : List Value} {w : World} {t kt et m : Nat} {x : Operand} {l : List (Value × Value)}
    (ho : o.op = .range t x) (ht : kOf T t = .map kt et) (hx : ev fs x = .map (some m)) (hl : MapW w m l)
    (h : ∀ w', ItAt w' w.heap.size m l → Mod [] w w' → w'.heap.size = w.heap.size + 1 → Hold P T V R F (.ops all rest) k (put fs o.dst (.pointer (some ⟨w.heap.size, 0, none⟩))) w') : Hold P T V R F (.gop .run all o rest) k fs w := by
  have hu := kOk_of hP ht (by simp)
  simp only [KOk] at hu
  obtain ⟨es, c, h1, rfl, h3, h4⟩ := hl
  have hleft : (leftOf es #[]).toList = es.toList := by unfold leftOf; simp
  refine hold_val (w' := w.alloc (.mapIter (some m) c #[] c)) (fun c => by rw [ho]; simp) ?_ (h _ ⟨c, #[], c, es, c, heapNew, heapAlloc h1, h3, Nat.le_refl _, Nat.le_refl _, h4, by rw [hleft]; rfl⟩ ((Mod.refl _ _).alloc _) sizeAlloc)
  have hr := run_range_map (P := P) w t kt et m es c hu h1
  obtain ⟨dst, op, ty, pos, aft, g⟩ := o
  simp only at ho; subst ho
  simp only [execOp, ev_eq, hx, Sem.run_bind, hr, Result.andThen_ok, Sem.run_pure]
theorem left_push {es : Array MapEntry} {seen : Array Nat} {e : MapEntry} {a b : List MapEntry} (hn : (es.toList.map (·.born)).Nodup) (h : (leftOf es seen).toList = a ++ e :: b) : (leftOf es (seen.push e.born)).toList = a ++ b := by
  have e1 : (leftOf es (seen.push e.born)).toList = (leftOf es seen).toList.filter fun x => x.born != e.born := by
    unfold leftOf
    rw [Array.toList_filter, Array.toList_filter, List.filter_filter]
    congr 1
    funext x
    rw [Array.contains_push]
    cases hx : (x.born == e.born) <;> simp_all [bne]
  have hsub : List.Sublist (leftOf es seen).toList es.toList := by unfold leftOf; rw [Array.toList_filter]; exact List.filter_sublist
  have hnd : ((leftOf es seen).toList.map (·.born)).Nodup := List.Nodup.sublist (hsub.map _) hn
  rw [h] at hnd
  simp only [List.map_append, List.map_cons] at hnd
  rw [List.nodup_append] at hnd
  obtain ⟨n1, n2, n3⟩ := hnd
  rw [List.nodup_cons] at n2
  rw [e1, h, List.filter_append, List.filter_cons]
  have hb0 : (e.born != e.born) = false := by simp
  rw [hb0]
  simp only [Bool.false_eq_true, if_false]
  have ha : a.filter (fun x => x.born != e.born) = a := List.filter_eq_self.2 fun x hx => by
    have := n3 x.born (List.mem_map_of_mem hx) e.born (by simp)
    simpa using this
  have hb : b.filter (fun x => x.born != e.born) = b := List.filter_eq_self.2 fun x hx => by
    have : x.born ≠ e.born := fun h => n2.1 (by rw [← h]; exact List.mem_map_of_mem hx)
    simpa using this
  rw [ha, hb]
/-- The entry that the last step handed out. -/
def EntAt (w : World) (r m : Nat) (key val : Value) : Prop := ∃ since seen es clock e, w.heap[r]? = some (.mapIter (some m) since (Array.push seen (MapEntry.born e)) clock) ∧ w.heap[m]? = some (.map es clock) ∧ e ∈ es.toList ∧ (es.toList.map (·.born)).Nodup ∧ e.key = key ∧ e.val = val
theorem EntAt.mod {S : List Nat} {w w' : World} {r m : Nat} {x y : Value} (h : EntAt w r m x y) (hm : Mod S w w') (hr : r ∉ S) (hn : m ∉ S) : EntAt w' r m x y := by
  obtain ⟨a, b, c, d, e, h1, h2, h3⟩ := h
  exact ⟨a, b, c, d, e, hm.get h1 hr, hm.get h2 hn, h3⟩
/-- 'entry' of an iterator over a map. -/
theorem hold_entryMap {V : Env} {R : Ending → World → Prop} {F : Exit → Act → World → Prop} {all rest : List Oper} {o : Oper} {k : List KI} {fs : List Value} {w : World} {x : Operand} {r m : Nat} {key val : Value}
    (ho : o.op = .entry x) (hx : ev fs x = .pointer (some ⟨r, 0, none⟩)) (hl : EntAt w r m key val)
    (h : Hold P T V R F (.ops all rest) k (put fs o.dst (.tuple #[key, val])) w) : Hold P T V R F (.gop .run all o rest) k fs w := by
  obtain ⟨since, seen, es, clock, e, g1, g2, g3, g4, rfl, rfl⟩ := hl
  obtain ⟨dst, op, ty, pos, aft, g⟩ := o
  simp only at ho; subst ho
  have hr := run_entry_at (P := P) w r m since seen es clock e g1 g2 g3 g4
  refine hold_val (fun c => by simp) ?_ h
  simp only [execOp, ev_eq, hx, Sem.run_bind, hr, Result.andThen_ok, Sem.run_pure]
/-- 'next' of an iterator over a map. -/
theorem hold_nextMap {V : Env} {R : Ending → World → Prop} {F : Exit → Act → World → Prop} {all rest : List Oper} {o : Oper} {k : List KI} {fs : List Value} {w : World} {x : Operand} {r m : Nat} {left : List (Value × Value)}
    (ho : o.op = .next x false) (hx : ev fs x = .pointer (some ⟨r, 0, none⟩)) (hl : ItAt w r m left)
    (h0 : left = [] → Hold P T V R F (.ops all rest) k (put fs o.dst (.tuple #[.bool false])) w)
    (h1 : ∀ (key val : Value) (a b : List (Value × Value)) (w' : World), left = a ++ (key, val) :: b → ItAt w' r m (a ++ b) → EntAt w' r m key val → Mod [r] w w' → Hold P T V R F (.ops all rest) k (put fs o.dst (.tuple #[.bool true, key, val])) w') : Hold P T V R F (.gop .run all o rest) k fs w := by
  obtain ⟨since, seen, c0, es, clock, g1, g2, g3, g4, g5, g6, g7⟩ := hl
  obtain ⟨dst, op, ty, pos, aft, g⟩ := o
  simp only at ho; subst ho
  rcases run_next_at (P := P) w ty r m since c0 seen es clock g1 g2 g3 g4 with ⟨hz, hr⟩ | ⟨e, he, w1, hw1, hr⟩
  · refine hold_val (fun c => by simp) ?_ (h0 ?_)
    · simp only [execOp, ev_eq, hx, Sem.run_bind, hr, Result.andThen_ok, Sem.run_pure]
    · rw [← g7]
      have : (leftOf es seen).toList = [] := List.eq_nil_of_length_eq_zero (by rw [Array.length_toList]; exact hz)
      rw [this]; rfl
  · obtain ⟨a, b, hab⟩ := List.append_of_mem he
    have hm1 : Mod [r] w w1 := by rcases hw1 with rfl | rfl; exact Mod.refl _ _; exact (Mod.refl _ _).drewN 1
    have hh1 : w1.heap = w.heap := by rcases hw1 with rfl | rfl <;> rfl
    have hlt := ltOf g1
    have hne : m ≠ r := fun h => by subst h; rw [g1] at g2; simp at g2
    have hset : ∀ o' : Obj, ChangeMaps.setBlock w1 r o' = w1.putObj r o' := fun o' => rfl
    rw [hset] at hr
    have hm2 : Mod [r] w (w1.putObj r (.mapIter (some m) since (seen.push e.born) clock)) := hm1.put (.inl (by simp)) _
    refine hold_val (w' := w1.putObj r (.mapIter (some m) since (seen.push e.born) clock)) (fun c => by simp) ?_ (h1 e.key e.val (a.map fun e => (e.key, e.val)) (b.map fun e => (e.key, e.val)) _ ?_ ?_ ?_ hm2)
    · simp only [execOp, ev_eq, hx, Sem.run_bind, hr, Result.andThen_ok, Sem.run_pure]
    · rw [← g7, hab]; simp
    · have k1 : w1.heap[r]? = some (.mapIter (some m) since seen c0) := by rw [hh1]; exact g1
      have k2 : w1.heap[m]? = some (.map es clock) := by rw [hh1]; exact g2
      refine ⟨since, seen.push e.born, clock, es, clock, heapPe k1, by rw [heapPn hne]; exact k2, g3, g5, g5, g6, ?_⟩
      rw [left_push g6 hab, List.map_append]
    · have k1 : w1.heap[r]? = some (.mapIter (some m) since seen c0) := by rw [hh1]; exact g1
      have k2 : w1.heap[m]? = some (.map es clock) := by rw [hh1]; exact g2
      refine ⟨since, seen, es, clock, e, heapPe k1, by rw [heapPn hne]; exact k2, ?_, g6, rfl, rfl⟩
      have hsub : List.Sublist (leftOf es seen).toList es.toList := by unfold leftOf; rw [Array.toList_filter]; exact List.filter_sublist
      exact hsub.subset he
end Go.Wk
