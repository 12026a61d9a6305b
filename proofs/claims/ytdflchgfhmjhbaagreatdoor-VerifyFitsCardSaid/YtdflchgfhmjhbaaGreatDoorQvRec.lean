/-
  Deferred calls of functions; recover.
-/
import Derived.Test.YtdflchgfhmjhbaaGreatDoorQvWk9
import Derived.RecoverIn
import Derived.Scope
set_option linter.unusedSimpArgs false
set_option linter.unusedVariables false
namespace Go.Wk
open Go
variable {P : Program} {T : Tab}
/-- 'defer f(..)': the call is noted. -/
theorem hold_defer {ds : List Deferred} {s : Option Nat} {R : Ending → World → Prop} {F : Exit → Act → World → Prop} {all rest : List Oper} {o : Oper} {k : List KI} {fs : List Value} {w : World} {x : Operand} {as : Array Operand} {ts : Array Nat} {f : Nat} {first cap : Array Value}
    (ho : o.op = .defer ⟨.value x, as, ts⟩) (hx : ev fs x = .func (.func f) first cap)
    (h : Hold P T ⟨none, ⟨.fn (.func f) cap, first ++ (evs fs as.toList).toArray⟩ :: ds, s⟩ R F (.ops all rest) k (put fs o.dst undef) w) : Hold P T ⟨none, ds, s⟩ R F (.gop .run all o rest) k fs w := by
  show o.wpIn (rf none) 0 P (act ⟨none, ds, s⟩ fs) w (fun a w => wpListIn (rf none) 0 P all.toArray (den P ⟨none, ds, s⟩ F k) rest a w) (den P ⟨none, ds, s⟩ F k)
  refine ⟨fun _ _ => trivial, ?_⟩
  have e1 : as.map (act ⟨none, ds, s⟩ fs).eval = (evs fs as.toList).toArray := by
    apply Array.ext'
    have := evs_eq fs ds as.toList
    simpa [act] using this
  have e2 : (act ⟨none, ds, s⟩ fs).eval x = ev fs x := ev_eq fs ds x
  have hr : (o.semAt (rf none).round (act ⟨none, ds, s⟩ fs).eval).run P w = .ok (.defer ⟨.fn (.func f) cap, first ++ (evs fs as.toList).toArray⟩) w := by
    obtain ⟨dst, op, ty, pos, aft, g⟩ := o
    simp only at ho; subst ho
    simp only [Oper.semAt, rf, execOp, resolve, e1, e2, hx, Deferred.ofValue, Sem.run_bind, Sem.run_pure, Result.andThen_ok]
  rw [hr, Oper.uponIn_defer]
  have h' : wpListIn (rf none) 0 P all.toArray (den P ⟨none, ⟨.fn (.func f) cap, first ++ (evs fs as.toList).toArray⟩ :: ds, s⟩ F k) rest (act ⟨none, ⟨.fn (.func f) cap, first ++ (evs fs as.toList).toArray⟩ :: ds, s⟩ (put fs o.dst undef)) w := h
  rw [den_env (P := P) (F := F) (V := ⟨none, ⟨.fn (.func f) cap, first ++ (evs fs as.toList).toArray⟩ :: ds, s⟩) (V' := ⟨none, ds, s⟩) rfl k] at h'
  rw [← act_put] at h'
  exact h'
/-- A call of a function that was deferred, in a frame of mode u: how it ends, which mode it leaves. -/
abbrev CallsR (P : Program) (f : Nat) (args : Array Value) (u : FrameMode) (w : World) (R : Ending → FrameMode → World → Prop) : Prop := CallsDIn (rf none) 0 P f args u w R
/-- Behind the last deferred call. -/
def lastW (T : Tab) (rs : List ResultVar) (R : Ending → World → Prop) (fs : List Value) : FrameMode → World → Prop
  | .returning, w => retW T rs R fs w
  | .panicking ch, w => R (.panicked ch) w
  | .run, _ => False
theorem lastW_ret {rs : List ResultVar} {R : Ending → World → Prop} {fs : List Value} {w : World} : lastW T rs R fs .returning w = retW T rs R fs w := Eq.trans rfl rfl
def modeOf : Exit → FrameMode
  | .panic ch => .panicking ch
  | _ => .returning
/-- A body ends, one call was deferred. -/
theorem hold_leave (hP : Ok P T) {fn : Func} {rs : List ResultVar} {R : Ending → World → Prop} (hr : fn.results = rs.toArray) {s : Option Nat} {fs : List Value} {w : World} {f : Nat} {cap args : Array Value} {e : Exit} (hf : FOk P f) (he : e = .normal ∨ e = .ret ∨ ∃ ch, e = .panic ch)
    (h : CallsR P f (args ++ cap) (modeOf e) w fun e u' w' => (∃ v, e = .returned v ∧ lastW T rs R fs (settle u') w') ∨ (∃ ch, e = .panicked ch ∧ lastW T rs R fs (raised u' ch) w')) :
    Hold P T ⟨none, [⟨.fn (.func f) cap, args⟩], s⟩ R (fin P fn R) (.ex e) [] fs w := by
  have key : LeavesInM (rf none) 0 P fn fs.toArray R [⟨.fn (.func f) cap, args⟩] (modeOf e) w := by
    have hmode : modeOf e ≠ .run := by rcases he with rfl | rfl | ⟨ch, rfl⟩ <;> simp [modeOf]
    obtain ⟨fn', h1, h2, h3⟩ := hf
    have hinv : (invoke (.fn (.func f) cap) args).run P w = .ok (.enter f (args ++ cap)) w := by
      simp only [invoke, callFunc, Sem.run_bind, Sem.run_pure, Result.andThen_ok, run_program, h1, h2, h3, Bool.false_eq_true, if_false]
    have hl : ∀ u w, lastW T rs R fs u w → LeavesInM (rf none) 0 P fn fs.toArray R [] u w := by
      intro u w h
      cases u with
      | returning => exact retW_run (V := ⟨none, [], none⟩) hP hr h
      | panicking ch => exact h
      | run => exact h.elim
    refine ⟨hmode, .inr ⟨fun h => by simp [rf] at h, .func f, cap, f, args ++ cap, rfl, hinv, fun _ _ => trivial, CallsDIn.mono h ?_⟩⟩
    rintro e u' w' (⟨v, rfl, h⟩ | ⟨ch, rfl, h⟩)
    · exact hl _ _ h
    · exact hl _ _ h
  rcases he with rfl | rfl | ⟨ch, rfl⟩ <;> exact key
/-- How a deferred call ends. -/
def recEnd (T : Tab) (rs : List ResultVar) (R : Ending → FrameMode → World → Prop) (u : FrameMode) : Exit → List Value → World → Prop
  | .normal, fs, w => retW T rs (fun e w => R e u w) fs w
  | .ret, fs, w => retW T rs (fun e w => R e u w) fs w
  | .panic ch, fs, w => R (.panicked ch) u w
  | _, _, _ => False
theorem retW_results (hP : Ok P T) {fn : Func} {rs : List ResultVar} {R : Ending → World → Prop} (hr : fn.results = rs.toArray) {fs : List Value} {w : World} (h : retW T rs R fs w) : ∃ v, (results fn fs.toArray).run P w = .ok v w ∧ R (.returned v) w := by
  exact retW_run (V := ⟨none, [], none⟩) hP hr h
/-- Behind 'recover' the deferred function goes on as any code does. -/
theorem wpS_go (hP : Ok P T) {fn : Func} {rs : List ResultVar} (hr : fn.results = rs.toArray) {c : Code} {c₀ : Frame} {cs : List Frame} {u : FrameMode} {fs : List Value} {w : World} {R : Ending → FrameMode → World → Prop}
    (h : go P T ⟨none, [], none⟩ [] RF (fin P fnR RF) 4000 (.code c) [.out fun e ds fs w => ds = [] ∧ recEnd T rs R u e fs w] fs w) :
    c.wpSIn (rf none) 0 P (bodyPostS P fn c₀ cs R) ⟨fs.toArray, []⟩ ({ c₀ with mode := u } :: cs) w := by
  have hg := go_sound hP (fn := fnR) (rs := []) rfl _ (.code c) _ _ _ trivial h
  refine wpSIn_of_wpIn rfl (wpIn_mono hg ?_)
  rintro e a w' ⟨ds, fs', rfl, rfl, h⟩
  cases e with
  | normal =>
    obtain ⟨v, h1, h2⟩ := retW_results (R := fun e w => R e u w) hP hr h
    exact ⟨rfl, u, rfl, v, h1, h2⟩
  | ret =>
    obtain ⟨v, h1, h2⟩ := retW_results (R := fun e w => R e u w) hP hr h
    exact ⟨rfl, u, rfl, v, h1, h2⟩
  | panic ch => exact ⟨rfl, u, rfl, h⟩
  | _ => exact h.elim
/-! ### a scope of labels that nothing jumps in -/
def noOut : List KI → Bool
  | [] => true
  | .out _ :: _ => false
  | _ :: k => noOut k
theorem den_goto {V : Env} {fn : Func} {R : Ending → World → Prop} {l : Nat} {a : Act} {w : World} : ∀ k : List KI, noOut k = true → den P V (fin P fn R) k (.goto l) a w → False
  | [], _, h => h
  | .code _ :: k, hk, h => den_goto k hk h
  | .blk _ :: k, hk, h => den_goto k hk h
  | .lp _ :: k, hk, h => den_goto k hk h
theorem hold_scope {ds : List Deferred} {s : Option Nat} {R : Ending → World → Prop} {fn : Func} {c : Code} {k : List KI} {fs : List Value} {w : World} (hk : noOut k = true)
    (h : Hold P T ⟨none, ds, s⟩ R (fin P fn R) (.code c) k fs w) : Hold P T ⟨none, ds, s⟩ R (fin P fn R) (.code (.scope c)) k fs w := by
  show (Code.scope c).wpIn (rf none) 0 P (den P ⟨none, ds, s⟩ (fin P fn R) k) (act ⟨none, ds, s⟩ fs) w
  have h' : c.wpIn (rf none) 0 P (den P ⟨none, ds, s⟩ (fin P fn R) k) (act ⟨none, ds, s⟩ fs) w := h
  refine wpIn_rf.2 (wp_scope_straight (wpIn_rf.1 (wpIn_mono h' ?_)))
  intro e a w hq
  cases e with
  | goto l => exact den_goto k hk hq
  | _ => exact hq
/-! ### rows of bytes in memory -/
theorem addr_add {b o n : Nat} : (⟨b, o, none⟩ : Addr).add n = ⟨b, o + n, none⟩ := by cases n <;> simp [Addr.add]
theorem loadL_heap {w : World} {b t : Nat} {arr : Array Value} {fr : Nat × Nat} (h : w.heap[b]? = some (.cells arr t fr)) : ∀ (n i o : Nat), o + i + n ≤ arr.size → loadL w ⟨b, o, none⟩ i n = some ((arr.toList.drop (o + i)).take n)
  | 0, i, o, _ => by simp [loadL]
  | n + 1, i, o, hn => by
    have hc : w.cell? (addA ⟨b, o, none⟩ i) = some arr[o + i] := by
      have : addA ⟨b, o, none⟩ i = ⟨b, o + i, none⟩ := by cases i <;> rfl
      rw [this, cellOf h]; simp
    have hd : arr.toList.drop (o + i) = arr[o + i] :: arr.toList.drop (o + (i + 1)) := by
      rw [List.drop_eq_getElem_cons (by simp; omega)]; simp [Nat.add_assoc]
    rw [loadL, hc, loadL_heap h n (i + 1) o (by omega), hd]
    rfl
def byteV (b : UInt8) : Value := .int .u8 b.toNat
theorem bytesL_byteV (bs : List UInt8) : bytesL (bs.map byteV) = some bs := bytesL_map bs
/-! ### a string is ranged over -/
theorem run_getObj_iter {l : Nat} {s : ByteArray} {p : Nat} {w : World} (h : w.heap[l]? = some (.stringIter s p)) : (getObj l).run P w = .ok (.stringIter s p) w := by simp [getObj, Sem.run, h]
theorem run_setObj_iter {l : Nat} {s : ByteArray} {p : Nat} {w : World} (o : Obj) (h : w.heap[l]? = some (.stringIter s p)) : (setObj l o).run P w = .ok () (w.putObj l o) := by simp [setObj, Sem.run, h, World.putObj]
theorem hold_range (hP : Ok P T) {V : Env} {R : Ending → World → Prop} {F : Exit → Act → World → Prop} {all rest : List Oper} {o : Oper} {k : List KI} {fs : List Value} {w : World} {t : Nat} {x : Operand} {s : ByteArray}
    (ho : o.op = .range t x) (ht : kOf T t = .string) (hx : ev fs x = .string s)
    (h : Hold P T V R F (.ops all rest) k (put fs o.dst (.pointer (some ⟨w.heap.size, 0, none⟩))) (w.alloc (.stringIter s 0))) : Hold P T V R F (.gop .run all o rest) k fs w := by
  have hu := kOk_of hP ht (by simp)
  simp only [KOk] at hu
  refine hold_val (fun c => by rw [ho]; simp) ?_ h
  obtain ⟨dst, op, ty, pos, aft, g⟩ := o
  simp only at ho; subst ho
  have hn : (newObj (.stringIter s 0)).run P w = .ok w.heap.size (w.alloc (.stringIter s 0)) := rfl
  simp only [execOp, ev_eq, hx, Instr.range, Sem.run_bind, Sem.run_pure, Result.andThen_ok, run_underlying hu, hn]
theorem hold_over {V : Env} {R : Ending → World → Prop} {F : Exit → Act → World → Prop} {all rest : List Oper} {o : Oper} {k : List KI} {fs : List Value} {w : World} {x : Operand} {s : ByteArray} {r pos : Nat}
    (ho : o.op = .next x true) (hx : ev fs x = .pointer (some ⟨r, 0, none⟩)) (hr : w.heap[r]? = some (.stringIter s pos)) (hp : ¬ pos < s.size)
    (h : Hold P T V R F (.ops all rest) k (put fs o.dst (.tuple #[.bool false])) w) : Hold P T V R F (.gop .run all o rest) k fs w := by
  refine hold_val (fun c => by rw [ho]; simp) ?_ h
  obtain ⟨dst, op, ty, ps, aft, g⟩ := o
  simp only at ho; subst ho
  simp only [execOp, ev_eq, hx, Instr.next, Sem.run_bind, Sem.run_pure, Result.andThen_ok, run_getObj_iter hr, if_neg hp]
theorem hold_next {V : Env} {R : Ending → World → Prop} {F : Exit → Act → World → Prop} {all rest : List Oper} {o : Oper} {k : List KI} {fs : List Value} {w : World} {x : Operand} {s : ByteArray} {r pos : Nat}
    (ho : o.op = .next x true) (hx : ev fs x = .pointer (some ⟨r, 0, none⟩)) (hr : w.heap[r]? = some (.stringIter s pos)) (hp : pos < s.size)
    (h : Hold P T V R F (.ops all rest) k (put fs o.dst (.tuple #[.bool true, .int .i64 pos, .int .i32 (Utf8.decode s pos).1])) (w.putObj r (.stringIter s (pos + (Utf8.decode s pos).2)))) : Hold P T V R F (.gop .run all o rest) k fs w := by
  refine hold_val (fun c => by rw [ho]; simp) ?_ h
  obtain ⟨dst, op, ty, ps, aft, g⟩ := o
  simp only at ho; subst ho
  simp only [execOp, ev_eq, hx, Instr.next, Sem.run_bind, Sem.run_pure, Result.andThen_ok, run_getObj_iter hr, if_pos hp, run_setObj_iter _ hr]
  rfl
end Go.Wk
