import Derived.Test.YtdflchgfhmjhbaaGreatDoorQvWk6
set_option linter.unusedSimpArgs false
set_option linter.unusedVariables false
namespace Go.Wk
open Go
variable {P : Program} {T : Tab}
/-! ### worlds -/
theorem cellSet {w : World} {b o b' o' : Nat} {v : Value} :
    (w.setCell ⟨b, o, none⟩ v).cell? ⟨b', o', none⟩ = if b = b' ∧ o = o' then (w.cell? ⟨b, o, none⟩).map (fun _ => v) else w.cell? ⟨b', o', none⟩ := by
  unfold World.cell? World.setCell
  simp only [Array.getElem?_modify, Option.isSome_none, Bool.false_eq_true, if_false]
  by_cases hb : b = b'
  · subst hb
    simp only [if_true, true_and]
    cases h : w.heap[b]? with
    | none => simp
    | some x =>
      cases x with
      | cells c e f =>
        simp only [Option.map_some]
        by_cases ho : o = o'
        · subst ho
          rw [if_pos rfl, Array.getElem?_setIfInBounds]
          simp only [if_true]
          by_cases hl : o < c.size
          · simp [hl]
          · simp [hl]
        · rw [if_neg ho, Array.getElem?_setIfInBounds_ne ho]
      | _ => by_cases ho : o = o' <;> simp [ho]
  · simp [hb]
theorem frozenSet {w : World} {a q : Addr} {v : Value} : (w.setCell a v).frozen? q = w.frozen? q := World.frozen?_setCell ..
theorem sizeSet {w : World} {a : Addr} {v : Value} : (w.setCell a v).heap.size = w.heap.size := by unfold World.setCell; simp
theorem sizeAlloc {w : World} {o : Obj} : (w.alloc o).heap.size = w.heap.size + 1 := by rw [World.alloc]; simp
theorem cellAlloc {w : World} {cs : Array Value} {t b o : Nat} {fr : Nat × Nat} :
    (w.alloc (.cells cs t fr)).cell? ⟨b, o, none⟩ = if b = w.heap.size then cs[o]? else w.cell? ⟨b, o, none⟩ := by
  unfold World.cell?
  rw [World.alloc]
  simp only [Array.getElem?_push, Option.isSome_none, Bool.false_eq_true, if_false]
  by_cases h : b = w.heap.size
  · simp [h]
  · simp [h]
theorem frozenAlloc {w : World} {cs : Array Value} {t b o : Nat} :
    (w.alloc (.cells cs t)).frozen? ⟨b, o, none⟩ = if b = w.heap.size then false else w.frozen? ⟨b, o, none⟩ := by
  unfold World.frozen?
  rw [World.alloc]
  simp only [Array.getElem?_push]
  by_cases h : b = w.heap.size
  · simp [h]
  · simp [h]
theorem cellDrew {w : World} {a : Addr} {n : Nat} : (w.drewN n).cell? a = w.cell? a := rfl
theorem frozenDrew {w : World} {a : Addr} {n : Nat} : (w.drewN n).frozen? a = w.frozen? a := rfl
theorem sizeDrew {w : World} {n : Nat} : (w.drewN n).heap.size = w.heap.size := rfl
/-! ### the places where the walk stops -/
theorem callW_any {f : Nat} {args : Array Value} {w : World} {K : Value → World → Prop} {E : List PanicEntry → World → Prop} {S : Ending → World → Prop}
    (h : Calls P f args w S) (hk : ∀ e w', S e w' → (∃ v, e = .returned v ∧ K v w') ∨ (∃ ch, e = .panicked ch ∧ E ch w')) : callW P f args w K E := h.mono hk
/-! ### a block known whole, and what else is as it was -/
def SameBut (b : Nat) (w w' : World) : Prop := w'.heap.size = w.heap.size ∧ ∀ r, r ≠ b → w'.heap[r]? = w.heap[r]?
theorem SameBut.refl (b : Nat) (w : World) : SameBut b w w := ⟨rfl, fun _ _ => rfl⟩
theorem SameBut.trans {b : Nat} {w w' w'' : World} (h : SameBut b w w') (h' : SameBut b w' w'') : SameBut b w w'' := ⟨h'.1.trans h.1, fun r hr => (h'.2 r hr).trans (h.2 r hr)⟩
theorem SameBut.drew {b : Nat} {w w' : World} (n : Nat) (h : SameBut b w w') : SameBut b w (w'.drewN n) := h
theorem heapSet {w : World} {b o : Nat} {v : Value} {cs : Array Value} {t : Nat} {fr : Nat × Nat} (h : w.heap[b]? = some (.cells cs t fr)) :
    (w.setCell ⟨b, o, none⟩ v).heap[b]? = some (.cells (cs.setIfInBounds o v) t fr) := by
  unfold World.setCell
  simp [Array.getElem?_modify, h]
theorem SameBut.set {b o : Nat} {v : Value} {w w' : World} (h : SameBut b w w') : SameBut b w (w'.setCell ⟨b, o, none⟩ v) := by
  refine ⟨by rw [sizeSet]; exact h.1, fun r hr => ?_⟩
  rw [← h.2 r hr]
  unfold World.setCell
  simp only [Array.getElem?_modify]
  rw [if_neg (fun e => hr e.symm)]
theorem cellOf {w : World} {b o : Nat} {cs : Array Value} {t : Nat} {fr : Nat × Nat} (h : w.heap[b]? = some (.cells cs t fr)) : w.cell? ⟨b, o, none⟩ = cs[o]? := by
  unfold World.cell?; simp [h]
theorem frozenOf {w : World} {b o : Nat} {cs : Array Value} {t : Nat} (h : w.heap[b]? = some (.cells cs t (0, 0))) : w.frozen? ⟨b, o, none⟩ = false := by
  unfold World.frozen?; simp [h]
end Go.Wk
