/-
  Maps.
-/
import Derived.Test.YtdflchgfhmjhbaaGreatDoorQvRec
set_option linter.unusedSimpArgs false
set_option linter.unusedVariables false
namespace Go.Wk
open Go
variable {P : Program} {T : Tab}
/-- An operation without a value, by its run. -/
theorem hold_skip {V : Env} {R : Ending → World → Prop} {F : Exit → Act → World → Prop} {all rest : List Oper} {o : Oper} {k : List KI} {fs : List Value} {w w' : World}
    (hd : ∀ c, o.op ≠ .defer c) (hr : (execOp (Act.eval ⟨fs.toArray, []⟩) o).run P w = .ok .skip w') (h : Hold P T V R F (.ops all rest) k (put fs o.dst undef) w') : Hold P T V R F (.gop .run all o rest) k fs w := by
  have hr' : (execOp (act V fs).eval o).run P w = .ok .skip w' := by
    have e : (act V fs).eval = (Act.eval ⟨fs.toArray, []⟩) := by funext x; exact (ev_eq fs V.ds x).trans (ev_eq fs [] x).symm
    rw [e]; exact hr
  have h' : wpListIn (rf V.ro) 0 P all.toArray (den P V F k) rest (act V (put fs o.dst undef)) w' := h
  rw [← act_put] at h'
  exact VRes.wpIn (a := act V fs) hd (.inr (.inl ⟨w', hr', h'⟩))
/-- A map, as the row of its entries. -/
def MapAt (w : World) (r : Nat) (l : List (Value × Value)) : Prop := ∃ es clock, w.heap[r]? = some (.map es clock) ∧ entriesOf es = l
theorem MapAt.mod {S : List Nat} {w w' : World} {r : Nat} {l : List (Value × Value)} (h : MapAt w r l) (hm : Mod S w w') (hn : r ∉ S) : MapAt w' r l := by
  obtain ⟨es, c, h1, h2⟩ := h
  exact ⟨es, c, hm.get h1 hn, h2⟩
theorem MapAt.lt {w : World} {r : Nat} {l : List (Value × Value)} (h : MapAt w r l) : r < w.heap.size := by obtain ⟨es, c, h1, _⟩ := h; exact ltOf h1
theorem look_at {w : World} {r t kt et : Nat} {l : List (Value × Value)} {i : Value} {ok : Bool} (h : MapAt w r l) (hk : kOf T t = .map kt et) : lookV T t (.map (some r)) i ok w = lookZ T kt et ok i l := by
  obtain ⟨es, c, h1, h2⟩ := h
  unfold lookV
  rw [hk]
  simp only [h1, h2]
theorem insert_run (hP : Ok P T) {w : World} {r t kt et clock : Nat} {es : Array MapEntry} {i v : Value} (hk : kOf T t = .map kt et) (hb : w.heap[r]? = some (.map es clock)) (hi : keyB (kOf T kt) i = true) (hks : keysB (kOf T kt) ((entriesOf es).map (·.1)) = true) (hno : mfind i (entriesOf es) = none) :
    (Instr.mapUpdate t (.map (some r)) i v).run P w = .ok () (w.putObj r (.map (es.push { key := i, val := v, born := clock }) (clock + 1))) := by
  have hu : P.underlying t = some (.map kt et) := by have := kOk_of hP hk (by simp); exact this
  have hd := under_key hP hi
  have hf := find_m hi es.toList 0 hks
  unfold entriesOf at hno
  rw [hno] at hf
  simp only at hf
  simp [Instr.mapUpdate, run_underlying hu, MapKept.run_getObj_map hb, MapKept.run_checkKey hd (isKey_of hi), MapKept.run_findKey hd hf, MapKept.run_setObj_map _ hb, Result.andThen, World.putObj]
end Go.Wk
