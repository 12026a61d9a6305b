/-
  A round of a range over a function whose body may panic by one call; deferred calls behind a range over a function.
-/
import Derived.Test.YtdflchgfhmjhbaaGreatDoorQoRec
set_option linter.unusedSimpArgs false
set_option linter.unusedVariables false
namespace Go.Wk
open Go
variable {P : Program} {T : Tab}
def WalkX (P : Program) (l : Nat) (c : Code) (a : Act) (w : World) (K : Act → World → Prop) (E : List PanicEntry → World → Prop) : Prop :=
  ∀ (b : Frame) (k : List Item) (cs : List Frame), b.roundOf = some l →
    (∃ a' w', K a' w' ∧ StepsIn (Machine.fenced P (rf none)) P (lone (b.atR a (.code c :: k)) cs w) (lone (b.atR a' k) cs w')) ∨
    (∃ ch a' ops is k' w', E ch w' ∧ a'.defers = [] ∧ StepsIn (Machine.fenced P (rf none)) P (lone (b.atR a (.code c :: k)) cs w) (lone { b.atR a' (.inRegion ops is :: k') with mode := .panicking ch } cs w'))
theorem fencedRf (m : Machine) : Machine.fenced P (rf none) m := fenced_wide P m
theorem walkX_of {l : Nat} {c : Code} {a : Act} {w : World} {K : Act → World → Prop} {E : List PanicEntry → World → Prop} (h : c.wpIn (rf (some l)) 0 P (fun e a w => e = .normal ∧ K a w) a w) : WalkX P l c a w K E := fun b k cs hb => by
  obtain ⟨e, a', w', ⟨rfl, hK⟩, harr⟩ := h b k cs hb trivial (fun _ h => by simp [rf] at h)
  exact .inl ⟨a', w', hK, harr⟩
theorem walkX_seq {l : Nat} {x y : Code} {a : Act} {w : World} {K K' : Act → World → Prop} {E : List PanicEntry → World → Prop} (h : WalkX P l x a w K' E) (h' : ∀ a w, K' a w → WalkX P l y a w K E) : WalkX P l (.seq x y) a w K E := fun b k cs hb => by
  rcases h b (.code y :: k) cs hb with ⟨a1, w1, hK, hs⟩ | ⟨ch, a1, ops, is, k', w1, hE, hd, hs⟩
  · rcases h' a1 w1 hK b k cs hb with ⟨a2, w2, hK2, hs2⟩ | ⟨ch, a2, ops, is, k', w2, hE, hd, hs2⟩
    · exact .inl ⟨a2, w2, hK2, (StepsIn.head (fencedRf _) stepR_seq hs).trans hs2⟩
    · exact .inr ⟨ch, a2, ops, is, k', w2, hE, hd, (StepsIn.head (fencedRf _) stepR_seq hs).trans hs2⟩
  · exact .inr ⟨ch, a1, ops, is, k', w1, hE, hd, .head (fencedRf _) stepR_seq hs⟩
theorem walkX_block {l id : Nat} {x : Code} {a : Act} {w : World} {K : Act → World → Prop} {E : List PanicEntry → World → Prop} (h : WalkX P l x a w K E) : WalkX P l (.block id x) a w K E := fun b k cs hb => by
  have s1 : step P (lone (b.atR a (.code (.block id x) :: k)) cs w) = .next (lone (b.atR a (.code x :: .inBlock id :: k)) cs w) := step_lone_go (by simp [stepG, stepG.exec, Frame.atR])
  rcases h b (.inBlock id :: k) cs hb with ⟨a1, w1, hK, hs⟩ | ⟨ch, a1, ops, is, k', w1, hE, hd, hs⟩
  · have s2 : step P (lone (b.atR a1 (.inBlock id :: k)) cs w1) = .next (lone (b.atR a1 k) cs w1) := step_lone_go (by simp [stepG, stepG.exec, Frame.atR])
    exact .inl ⟨a1, w1, hK, (StepsIn.head (fencedRf _) s1 hs).trans (.one (fencedRf _) s2)⟩
  · exact .inr ⟨ch, a1, ops, is, k', w1, hE, hd, .head (fencedRf _) s1 hs⟩
theorem walkX_call {l id : Nat} {m o : Oper} {a : Act} {w : World} {K : Act → World → Prop} {E : List PanicEntry → World → Prop} {v : Value} {f : Nat} {args : Array Value} (gm : m.guard = none) (go : o.guard = none)
    (hm : (m.semAt (some l) a.eval).run P w = .ok (.value v) w) (ho : (o.semAt (some l) (a.put m.dst v).eval).run P w = .ok (.enter f args) w)
    (ha : a.defers = []) (hc : Calls P f args w fun e w' => (∃ u, e = .returned u ∧ K ((a.put m.dst v).put o.dst u) w') ∨ (∃ ch, e = .panicked ch ∧ E ch w')) :
    WalkX P l (.region id #[m, o] false) a w K E := fun b k cs hb => by
  have s1 : step P (lone (b.atR a (.code (.region id #[m, o] false) :: k)) cs w) = .next (lone (b.atR a (.inRegion #[m, o] [0, 1] :: k)) cs w) := stepR_region
  have wm : Region.wanted m (yielded #[m, o] a.tmps) = true := by simp [Region.wanted, gm]
  have wo : Region.wanted o (yielded #[m, o] (a.put m.dst v).tmps) = true := by simp [Region.wanted, go]
  have g1 := stepGR_op (P := P) (b := b) (a := a) (k := k) (cs := cs) (w := w) (ops := #[m, o]) (i := 0) (rest := [1]) rfl wm
  have g2 := stepGR_op (P := P) (b := b) (a := a.put m.dst v) (k := k) (cs := cs) (w := w) (ops := #[m, o]) (i := 1) (rest := []) rfl wo
  rw [hb] at g1 g2
  have f1 : (b.atR a (.inRegion #[m, o] [0, 1] :: k)).finish v = b.atR (a.put m.dst v) (.inRegion #[m, o] [1] :: k) := by rw [Frame.finish_atR]; rfl
  have f2 : ∀ u, (b.atR (a.put m.dst v) (.inRegion #[m, o] [1] :: k)).finish u = b.atR ((a.put m.dst v).put o.dst u) (.inRegion #[m, o] [] :: k) := fun u => by rw [Frame.finish_atR]; rfl
  have s2 : step P (lone (b.atR a (.inRegion #[m, o] [0, 1] :: k)) cs w) = .next (lone (b.atR (a.put m.dst v) (.inRegion #[m, o] [1] :: k)) cs w) := step_lone_go (by rw [g1, ← f1]; simp [stepG.apply, hm])
  have s3 : step P (lone (b.atR (a.put m.dst v) (.inRegion #[m, o] [1] :: k)) cs w) = .next (lone (Frame.enter P f args .normal) (b.atR (a.put m.dst v) (.inRegion #[m, o] [1] :: k) :: cs) w) := step_lone_go (by rw [g2]; simp [stepG.apply, ho, Frame.atR])
  have head := StepsIn.head (I := Machine.fenced P (rf none)) (fencedRf _) s1 (.head (fencedRf _) s2 (.one (fencedRf _) s3))
  obtain ⟨e, w', fr, hR, hsteps, hfn, hleave⟩ := hc (b.atR (a.put m.dst v) (.inRegion #[m, o] [1] :: k) :: cs)
  rcases hR with ⟨u, rfl, hK⟩ | ⟨ch, rfl, hE⟩
  · have hs : StepsIn (Machine.fenced P (rf none)) P _ _ := (StepsIn.of_steps hsteps).mono fun m _ => fencedRf m
    have s4 := step_leave_returned (c := b.atR (a.put m.dst v) (.inRegion #[m, o] [1] :: k)) (cs := cs) hleave
    rw [f2] at s4
    exact .inl ⟨_, w', hK, (head.trans hs).trans (.head (fencedRf _) s4 (.one (fencedRf _) stepR_region_end))⟩
  · have hs : StepsIn (Machine.fenced P (rf none)) P _ _ := (StepsIn.of_steps hsteps).mono fun m _ => fencedRf m
    have s4 := step_leave_panicked (c := b.atR (a.put m.dst v) (.inRegion #[m, o] [1] :: k)) (cs := cs) hleave
    rw [Frame.raise_atR] at s4
    refine .inr ⟨ch, a.put m.dst v, _, _, _, w', hE, ?_, (head.trans hs).trans (.one (fencedRf _) s4)⟩
    cases hd : m.dst <;> simp [Act.put, ha]
theorem step_pan {fr c : Frame} {cs : List Frame} {w : World} {ch : List PanicEntry} (hm : fr.mode = .panicking ch) (hd : fr.defers = []) (hc : fr.catches P = false) : step P (lone fr (c :: cs) w) = .next (lone (c.raise ch) cs w) :=
  step_lone_go (by simp [stepG, unwind, hm, hd, hc])
theorem roundX {l f : Nat} {tmps : Array Value} {assign body : Code} {w : World} {R : Ending → World → Prop}
    (h : assign.wpIn (rf (some l)) 0 P (fun e a₁ w₁ => e = .normal ∧ ∃ w₂, (Instr.beginRound l).run P w₁ = .ok () w₂ ∧ WalkX P l body a₁ w₂ (fun _ w => ∃ v w', (Instr.endRound l none).run P w = .ok v w' ∧ R (.returned v) w') (fun ch w => R (.panicked ch) w)) { tmps := tmps, defers := [] } w) :
    RoundIn (rf none) 0 P l f tmps assign body w R := by
  refine ⟨trivial, fun c cs hr => ?_⟩
  let b : Frame := { (default : Frame) with fn := f, kind := .normal, roundOf := some l }
  have hb0 : Frame.round l f tmps assign body .normal = b.atR { tmps := tmps, defers := [] } [.code assign, .beginRound, .code body] := by
    simp [Frame.round, Frame.atR, b]
  obtain ⟨e, a₁, w₁, ⟨rfl, w₂, hbr, hbody⟩, harr⟩ := h b [.beginRound, .code body] (c :: cs) rfl trivial (fun _ h => by simp [rf] at h)
  rw [← hb0] at harr
  have s1 : StepsIn (Machine.fenced P (rf none)) P (lone (b.atR a₁ [.beginRound, .code body]) (c :: cs) w₁) (lone (b.atR a₁ [.code body]) (c :: cs) w₂) := .one (fencedRf _) (stepR_beginRound rfl hbr)
  rcases hbody b [] (c :: cs) rfl with ⟨a2, w3, ⟨v, w4, hend, hR⟩, hs⟩ | ⟨ch, a2, ops, is, k', w3, hE, hd, hs⟩
  · exact ⟨.returned v, w4, hR, (StepsIn.trans harr s1).trans (hs.trans (.one (fencedRf _) (stepR_round_end rfl rfl hend)))⟩
  · have s2 : step P (lone { b.atR a2 (.inRegion ops is :: k') with mode := .panicking ch } (c :: cs) w3) = .next (lone (c.raise ch) cs w3) := by
      refine step_pan rfl hd ?_
      unfold Frame.catches
      simp only [Frame.atR]
      split <;> simp_all
    exact ⟨.panicked ch, w3, hE, (StepsIn.trans harr s1).trans (hs.trans (.one (fencedRf _) s2))⟩
def mustW (P : Program) (T : Tab) (l : Nat) (m o : Oper) (x y : Operand) (as : Array Operand) (f : Nat) (first cap : Array Value) (B : Code) (K : Value → World → Prop) (E : List PanicEntry → World → Prop) (fs : List Value) (w : World) : Prop :=
  ev (put fs m.dst (ev fs x)) y = .func (.func f) first cap ∧
    Calls P f (first.toList ++ evs (put fs m.dst (ev fs x)) as.toList ++ cap.toList).toArray w (fun e w' =>
      (∃ u, e = .returned u ∧ Hold P T ⟨some l, [], none⟩ RF (fin P fnR RF) (.code B) [.out fun e ds _ w => e = .normal ∧ ∃ r, w.heap[l]? = some (.loop r) ∧ K (.bool true) (w.putObj l (.loop { r with state := .ready, pending := none }))] (put (put fs m.dst (ev fs x)) o.dst u) w') ∨
      (∃ ch, e = .panicked ch ∧ E ch w'))
theorem run_move {a : Act} {m : Oper} {x : Operand} {w : World} {l : Nat} (hm : m.op = .move x) : (m.semAt (some l) a.eval).run P w = .ok (.value (a.eval x)) w := by
  obtain ⟨dst, op, ty, pos, aft, g⟩ := m
  simp only at hm; subst hm
  simp [Oper.semAt, execOp]
theorem run_callF {m : Oper} {x : Operand} {as : Array Operand} {ts : Array Nat} {fs : List Value} {w : World} {l f : Nat} {first cap : Array Value} (hm : m.op = .call ⟨.value x, as, ts⟩) (hx : ev fs x = .func (.func f) first cap) (hf : FOk P f) :
    (m.semAt (some l) (Act.eval ⟨fs.toArray, []⟩)).run P w = .ok (.enter f (first.toList ++ evs fs as.toList ++ cap.toList).toArray) w := by
  obtain ⟨dst, op, ty, pos, aft, g⟩ := m
  simp only at hm; subst hm
  obtain ⟨fn, h1, h2, h3⟩ := hf
  have e1 : as.map (Act.eval ⟨fs.toArray, []⟩) = (evs fs as.toList).toArray := by apply Array.ext'; simp [← evs_eq fs []]
  have e2 : (first ++ (evs fs as.toList).toArray ++ cap) = (first.toList ++ evs fs as.toList ++ cap.toList).toArray := by apply Array.ext'; simp
  simp only [Oper.semAt, execOp, resolve, e1, ev_eq, hx, Deferred.ofValue, Sem.run_bind, Sem.run_pure, Result.andThen_ok, invoke, callFunc, run_program, h1, h2, h3, Bool.false_eq_true, if_false, e2]
theorem yieldW_ofX {l : Nat} {fid : Nat} {fs : List Value} {ps : Array Tmp} {assign A B : Code} {bid rid D : Nat} {m o : Oper} {pd : Option Code} {args : List Value} {w : World} {K : Value → World → Prop} {E : List PanicEntry → World → Prop}
    {x y : Operand} {as : Array Operand} {ts : Array Nat} {f : Nat} {first cap : Array Value}
    (h1 : w.heap[l]? = some (.loop ⟨.ready, pd, fid, fs.toArray, ps, assign, .block bid (.seq A (.seq (.region rid #[m, o] false) B)), D⟩)) (hs : args.length = ps.size)
    (hm : m.op = .move x) (ho : o.op = .call ⟨.value y, as, ts⟩) (gm : m.guard = none) (go : o.guard = none) (hf : FOk P f)
    (h : Hold P T ⟨some l, [], none⟩ RF (fin P fnR RF) (.code assign) [.out fun e ds fs w => e = .normal ∧ ds = [] ∧ ∃ r, w.heap[l]? = some (.loop r) ∧ r.state = .ready ∧
      Hold P T ⟨some l, [], none⟩ RF (fin P fnR RF) (.code A) [.out fun e ds fs w => e = .normal ∧ ds = [] ∧ mustW P T l m o x y as f first cap B K E fs w] fs (w.putObj l (.loop { r with state := .busy }))] (sets fs ps.toList args) w) :
    yieldW P l args.toArray w K E := by
  refine ⟨fid, _, assign, _, run_yield h1 (by simpa using hs), ?_⟩
  have hsets : (ps.zip args.toArray).foldl (fun tmps (x : Tmp × Value) => tmps.setIfInBounds x.1 x.2) fs.toArray = (sets fs ps.toList args).toArray := by
    have key : ∀ (ps : List Tmp) (args : List Value) (fs : List Value), (ps.zip args).foldl (fun tmps (x : Tmp × Value) => tmps.setIfInBounds x.1 x.2) fs.toArray = (sets fs ps args).toArray := by
      intro ps
      induction ps with
      | nil => intro args fs; simp [sets]
      | cons t ps ih =>
        intro args fs
        cases args with
        | nil => simp [sets]
        | cons v args => simp only [List.zip_cons_cons, List.foldl_cons, sets]; rw [← ih, set_eq]
    rw [← key]
    rw [← Array.foldl_toList, Array.toList_zip]
  refine roundX ?_
  rw [show ({ tmps := (ps.zip args.toArray).foldl (fun tmps (x : Tmp × Value) => tmps.setIfInBounds x.1 x.2) fs.toArray, defers := [] } : Act) = act ⟨some l, [], none⟩ (sets fs ps.toList args) from by rw [hsets]; rfl]
  have h' : assign.wpIn (rf (some l)) 0 P _ (act ⟨some l, [], none⟩ (sets fs ps.toList args)) w := h
  refine wpIn_mono h' ?_
  rintro e a w1 ⟨ds, fs1, rfl, rfl, rfl, r, g1, g2, g3⟩
  refine ⟨rfl, _, run_beginRound g1 g2, walkX_block (walkX_seq (K' := fun a w => ∃ fs, a = act ⟨some l, [], none⟩ fs ∧ mustW P T l m o x y as f first cap B K E fs w) (walkX_of ?_) ?_)⟩
  rotate_left 2
  · have g3' : A.wpIn (rf (some l)) 0 P _ (act ⟨some l, [], none⟩ fs1) (w1.putObj l (.loop { r with state := .busy })) := g3
    refine wpIn_mono g3' ?_
    rintro e a w2 ⟨ds, fs2, rfl, rfl, rfl, h5⟩
    exact ⟨rfl, fs2, rfl, h5⟩
  · rintro a w2 ⟨fs2, rfl, hy, hc⟩
    have em : (act ⟨some l, [], none⟩ fs2).eval x = ev fs2 x := ev_eq fs2 [] x
    have ep : (act ⟨some l, [], none⟩ fs2).put m.dst (ev fs2 x) = act ⟨some l, [], none⟩ (put fs2 m.dst (ev fs2 x)) := act_put fs2 m.dst _
    refine walkX_seq (K' := fun a w => ∃ u, a = act ⟨some l, [], none⟩ (put (put fs2 m.dst (ev fs2 x)) o.dst u) ∧ Hold P T ⟨some l, [], none⟩ RF (fin P fnR RF) (.code B) [.out fun e ds _ w => e = .normal ∧ ∃ r, w.heap[l]? = some (.loop r) ∧ K (.bool true) (w.putObj l (.loop { r with state := .ready, pending := none }))] (put (put fs2 m.dst (ev fs2 x)) o.dst u) w) (walkX_call gm go (v := ev fs2 x) (by rw [run_move hm, em]) (by rw [ep]; exact run_callF ho hy hf) rfl (hc.mono ?_)) ?_
    rotate_left 2
    · rintro e w3 (⟨u, rfl, hB⟩ | ⟨ch, rfl, hE⟩)
      · exact .inl ⟨u, rfl, u, by rw [ep, act_put], hB⟩
      · exact .inr ⟨ch, rfl, .inr ⟨ch, rfl, hE⟩⟩
    · rintro a w3 ⟨u, rfl, hB⟩
      refine walkX_of ?_
      have hB' : B.wpIn (rf (some l)) 0 P _ (act ⟨some l, [], none⟩ (put (put fs2 m.dst (ev fs2 x)) o.dst u)) w3 := hB
      refine wpIn_mono hB' ?_
      rintro e a w4 ⟨ds, fs4, rfl, rfl, r4, q1, q2⟩
      exact ⟨rfl, _, _, run_endRound none q1, .inl ⟨_, rfl, q2⟩⟩
theorem hold_leaveC (hP : Ok P T) {fn : Func} {rs : List ResultVar} {R : Ending → World → Prop} (hr : fn.results = rs.toArray) {s : Option Nat} {fs : List Value} {w : World} {r f : Nat} {cap args : Array Value} {e : Exit} (hf : FOk P f) (he : e = .normal ∨ e = .ret ∨ ∃ ch, e = .panic ch)
    (hd : w.heap[r]? = some (.deferred (some [])))
    (h : CallsR P f (args ++ cap) (modeOf e) (w.putObj r (.deferred none)) fun e u' w' => (∃ v, e = .returned v ∧ lastW T rs R fs (settle u') w') ∨ (∃ ch, e = .panicked ch ∧ lastW T rs R fs (raised u' ch) w')) :
    Hold P T ⟨none, [⟨.collected r, #[]⟩, ⟨.fn (.func f) cap, args⟩], s⟩ R (fin P fn R) (.ex e) [] fs w := by
  have key : LeavesInM (rf none) 0 P fn fs.toArray R [⟨.collected r, #[]⟩, ⟨.fn (.func f) cap, args⟩] (modeOf e) w := by
    have hmode : modeOf e ≠ .run := by rcases he with rfl | rfl | ⟨ch, rfl⟩ <;> simp [modeOf]
    have h1 : LeavesInM (rf none) 0 P fn fs.toArray R [⟨.fn (.func f) cap, args⟩] (modeOf e) (w.putObj r (.deferred none)) := by
      have h2 := hold_leave (P := P) (T := T) hP hr (s := s) (fs := fs) (w := w.putObj r (.deferred none)) hf he h
      rcases he with rfl | rfl | ⟨ch, rfl⟩ <;> exact h2
    refine ⟨hmode, .inl ⟨r, _, rfl, ?_, h1⟩⟩
    simp [Instr.takeDeferred, getObj, setObj, Sem.run_bind, Sem.run, hd, Result.andThen, World.putObj]
  rcases he with rfl | rfl | ⟨ch, rfl⟩ <;> exact key
end Go.Wk
