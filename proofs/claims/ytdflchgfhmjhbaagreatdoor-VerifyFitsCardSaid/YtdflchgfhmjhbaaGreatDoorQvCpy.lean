/-
  'copy(dst, s)' from a string into a row of bytes.
-/
import Derived.Test.YtdflchgfhmjhbaaGreatDoorQvRec
import Derived.Laws.IdiomCopy
set_option linter.unusedSimpArgs false
set_option linter.unusedVariables false
namespace Go.Wk
open Go
variable {P : Program} {T : Tab}
/-- The cells of a row, overwritten from a place on. -/
def ovw : List Value → Nat → List Value → List Value
  | l, _, [] => l
  | l, o, v :: vs => ovw (l.set o v) (o + 1) vs
theorem ovw_get : ∀ (vs l : List Value) (o i : Nat), o + vs.length ≤ l.length → (ovw l o vs)[i]? = if o ≤ i ∧ i < o + vs.length then vs[i - o]? else l[i]?
  | [], l, o, i, _ => by simp only [ovw, List.length_nil, Nat.add_zero]; rw [if_neg (by omega)]
  | v :: vs, l, o, i, h => by
    simp only [List.length_cons] at h
    rw [ovw, ovw_get vs _ _ i (by simp; omega)]
    by_cases h1 : o + 1 ≤ i ∧ i < o + 1 + vs.length
    · rw [if_pos h1, if_pos (by simp only [List.length_cons]; omega), show i - o = (i - (o + 1)) + 1 by omega]; simp
    · rw [if_neg h1, List.getElem?_set]
      by_cases h2 : o = i
      · subst h2
        rw [if_pos rfl, if_pos (by omega), if_pos (by simp only [List.length_cons]; omega)]
        simp
      · rw [if_neg h2, if_neg (by simp only [List.length_cons]; omega)]
theorem heapSets : ∀ (vs : List Value) (o : Nat) (w : World) {b t : Nat} {fr : Nat × Nat} {l : List Value}, w.heap[b]? = some (.cells l.toArray t fr) → (w.setCells b o vs).heap[b]? = some (.cells (ovw l o vs).toArray t fr)
  | [], o, w, b, t, fr, l, h => h
  | v :: vs, o, w, b, t, fr, l, h => by
    rw [World.setCells, ovw]
    refine heapSets vs (o + 1) _ ?_
    rw [heapSet h]
    simp
theorem modSets {S : List Nat} {a : World} {b : Nat} : ∀ (vs : List Value) (o : Nat) (w : World), Mod S a w → (b ∈ S ∨ a.heap.size ≤ b) → Mod S a (w.setCells b o vs)
  | [], _, _, h, _ => h
  | v :: vs, o, w, h, hb => modSets vs (o + 1) _ (h.set (p := ⟨b, o, none⟩) hb v) hb
theorem run_copyM (w : World) (dT sT ty elem : TypeId) (b o dLen dCap : Nat) (t : ByteArray)
    (hu : P.underlying dT = some (.slice elem)) (hz : ∀ w, (Go.sizeOf elem).run P w = .ok 1 w)
    (hc : ∀ j, j < Nat.min t.size dLen → (w.cell? ⟨b, o + j, none⟩).isSome = true) (hf : ∀ j, j < Nat.min t.size dLen → w.frozen? ⟨b, o + j, none⟩ = false) :
    (Builtin.copy_ #[dT, sT] ty #[.slice (some ⟨b, o, none⟩) dLen dCap, .string t]).run P w = .ok (goInt (Nat.min t.size dLen)) (w.setCells b o ((t.data.toList.map fun x => Value.int .u8 (x.toNat : Int)).take (Nat.min t.size dLen))) := by
  have hl : ((t.data.toList.map fun x => Value.int .u8 (x.toNat : Int)).take (Nat.min t.size dLen)).length = Nat.min t.size dLen := by
    rw [List.length_take, List.length_map]
    have h1 : t.data.toList.length = t.size := by cases t; simp [ByteArray.size]
    have h2 : Nat.min t.size dLen ≤ t.size := Nat.min_le_left _ _
    omega
  have hst := run_storeCells_cells (P := P) b o ((t.data.toList.map fun x => Value.int .u8 (x.toNat : Int)).take (Nat.min t.size dLen)) 0 w (by rw [hl]; simpa using hc) (by rw [hl]; simpa using hf) (by
    intro v hv
    obtain ⟨x, _, rfl⟩ := List.mem_map.1 (List.mem_of_mem_take hv)
    rfl)
  simp [Builtin.copy_, run_underlying hu, Builtin.lenOf, Builtin.firstCells, hz]
  rw [hst]
  rfl
/-- 'copy(dst, s)': dst a row of bytes in a block, s a string: as many bytes go over as fit. -/
theorem hold_copyS (hP : Ok P T) {V : Env} {R : Ending → World → Prop} {F : Exit → Act → World → Prop} {all rest : List Oper} {o : Oper} {k : List KI} {fs : List Value} {w : World} {d x : Operand} {t sT e : Nat} {i : TI}
    (ho : o.op = .call ⟨.builtin .copy, #[d, x], #[t, sT]⟩) (ht : kOf T t = .slice e) (he : T e = some i) (hs : i.size = 1) {b off dl dc : Nat} {l : List Value} {bt : Nat} {s : List UInt8}
    (hd : ev fs d = .slice (some ⟨b, off, none⟩) dl dc) (hx : ev fs x = .string ⟨s.toArray⟩) (hb : w.heap[b]? = some (.cells l.toArray bt (0, 0))) (hfit : off + dl ≤ l.length)
    (h : ∀ w', w'.heap[b]? = some (.cells (ovw l off ((s.take dl).map byteV)).toArray bt (0, 0)) → Mod [b] w w' → Hold P T V R F (.ops all rest) k (put fs o.dst (.int .i64 ((Nat.min s.length dl : Nat) : Int))) w') : Hold P T V R F (.gop .run all o rest) k fs w := by
  obtain ⟨ty, cs, hr⟩ := exec_builtin (P := P) (fs := fs) ho w
  obtain ⟨inf, z, g1, g2, g3, g4, g5⟩ := infoOf hP he
  have hu : P.underlying t = some (.slice e) := by have := kOk_of hP ht (by simp); exact this
  have hz : ∀ w, (Go.sizeOf e).run P w = .ok 1 w := fun w => by simp [Go.sizeOf, typeInfo, g1, g3, hs]
  have hsz : (⟨s.toArray⟩ : ByteArray).size = s.length := by simp [ByteArray.size]
  have hmm : Nat.min s.length dl ≤ dl := Nat.min_le_right _ _
  have hrun := run_copyM (P := P) w t sT ty e b off dl dc ⟨s.toArray⟩ hu hz
    (fun j hj => by rw [hsz] at hj; rw [cellOf hb]; simp only [List.getElem?_toArray]; rw [List.getElem?_eq_getElem (by omega)]; rfl)
    (fun j hj => by rw [frozenOf hb])
  have hv : (((⟨s.toArray⟩ : ByteArray).data.toList.map fun x => Value.int .u8 (x.toNat : Int)).take (Nat.min (⟨s.toArray⟩ : ByteArray).size dl)) = (s.take dl).map byteV := by
    rw [hsz, ← List.map_take]
    simp only [List.toList_toArray]
    have : s.take (Nat.min s.length dl) = s.take dl := by
      by_cases hc : s.length ≤ dl
      · rw [show Nat.min s.length dl = s.length from Nat.min_eq_left hc, List.take_length, List.take_of_length_le hc]
      · rw [show Nat.min s.length dl = dl from Nat.min_eq_right (by omega)]
    rw [this]
    rfl
  rw [hv, hsz] at hrun
  refine hold_val (fun c => by rw [ho]; simp) (v := .int .i64 ((Nat.min s.length dl : Nat) : Int)) (w' := w.setCells b off ((s.take dl).map byteV)) ?_ (h _ (heapSets _ _ _ hb) (modSets _ _ _ (Mod.refl _ _) (.inl (by simp))))
  rw [hr]
  simp only [evs, hd, hx]
  simp [builtin, hrun, goInt]
end Go.Wk
