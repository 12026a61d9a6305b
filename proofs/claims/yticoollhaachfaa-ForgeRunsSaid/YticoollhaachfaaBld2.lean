/-
  strings.Builder: WriteString, Len (walks).
-/
import Derived.Test.YticoollhaachfaaBld1
set_option linter.unusedSimpArgs false
set_option linter.unusedVariables false
namespace Go.Proofs.Yticoollhaachfaa
open Go Go.Wk Go.RowKit
attribute [local irreducible] go Hold
open Go.Lib
theorem hold_appendStr {T : Tab} {P : Program} {V : Env} {R : Ending → World → Prop} {F : Exit → Act → World → Prop} {all rest : List Oper} {o : Oper} {k : List KI} {fs : List Value} {w : World} {s x : Operand} {t u e : Nat} {i : TypeInfo}
    (ho : o.op = .call ⟨.builtin .append, #[s, x], #[t, u]⟩) (ht : P.underlying t = some (.slice e)) (hu : P.underlying u = some .string) (hi : P.info? e = some i) (hz : i.zero = some (.int .u8 0)) (hsize : i.size = 1) (hby : i.bytes = 1)
    (base : Nat) {v : Value} {n : Nat} {xs : List Value} (hown : w.ownsRowF base e 1 v n xs) {str : ByteArray} (hv : ev fs s = v) (hx : ev fs x = .string str) (h63 : n + str.size ≤ maxLen) (hb : n + str.size ≤ 140737488355328) (hbase : base ≤ w.heap.size)
    (h : ∀ v' w', w'.ownsRowF base e 1 v' (n + str.size) (xs ++ strCells str) → w.grownBy w' v.ownBlock → Hold P T V R F (.ops all rest) k (put fs o.dst v') w') : Hold P T V R F (.gop .run all o rest) k fs w := by
  obtain ⟨ty, cs, hr⟩ := exec_builtin (P := P) (fs := fs) ho w
  obtain ⟨v', w', a1, a2, a3, _⟩ := run_append_own_stringF (P := P) w base t u ty e i ht hu hi hz hsize hby v n xs hown str h63 hb hbase
  refine hold_val (fun c => by rw [ho]; simp) (v := v') (w' := w') ?_ (h v' w' a2 a3)
  rw [hr]; simp only [evs, hv, hx, builtin, Sem.run_bind, a1, Result.andThen_ok, Sem.run_pure]
/-- What a Builder's call may have turned: the Builder, its row of bytes. -/
def BC (w : World) (x : Nat) : Prop := (∃ (cs : Array Value) (t : Nat) (fr : Nat × Nat), w.heap[x]? = some (.cells cs t fr) ∧ (t = 5 ∨ t = 101)) ∨ w.heap.size ≤ x
def BM (b : Nat) (w w' : World) : Prop := ∃ Z, Mod Z w w' ∧ ∀ x ∈ Z, b ≤ x ∧ BC w x
theorem BM.refl (b : Nat) (w : World) : BM b w w := ⟨[], Mod.refl _ _, by simp⟩
theorem BM.trans {b : Nat} {w w' w'' : World} (h : BM b w w') (k : BM b w' w'') : BM b w w'' := by
  obtain ⟨Z, h1, h2⟩ := h
  obtain ⟨Y, k1, k2⟩ := k
  refine ⟨Z ++ Y, (h1.mono (by simp +contextual)).trans k1 (fun x hx => .inl (by simp [hx])), fun x hx => ?_⟩
  rw [List.mem_append] at hx
  by_cases hz : x ∈ Z
  · exact h2 x hz
  · have hy := hx.resolve_left hz
    refine ⟨(k2 x hy).1, ?_⟩
    by_cases hlt : x < w.heap.size
    · rcases (k2 x hy).2 with ⟨cs, t, fr, g1, g2⟩ | g
      · rw [h1.block x hlt hz] at g1; exact .inl ⟨cs, t, fr, g1, g2⟩
      · have := h1.size; omega
    · exact .inr (by omega)
theorem BM.below {b : Nat} {w w' : World} (h : BM b w w') (hb : b ≤ w.heap.size) : Below b w w' := by
  obtain ⟨Z, h1, h2⟩ := h
  exact h1.below hb fun x hx => (h2 x hx).1
theorem bCheck_cps (B b : Nat) (bs : List Value) (w : World) (h : IsBuilderF 101 5 B b bs w) (R : Ending → World → Prop) (hR : ∀ w', BuilderAtF 101 5 B b (.pointer (some ⟨b, 0, none⟩)) bs w' → BM B w w' → R (.returned (.tuple #[])) w') :
    Calls Try.prog 79 #[.pointer (some ⟨b, 0, none⟩)] w R := by
  rcases h with h | h
  · refine (bCheck_fresh b w h.cell0 h.shape h.frozen0).mono ?_
    rintro e w' ⟨rfl, rfl⟩
    have hb1 := h.1
    obtain ⟨_, v, hbk, _⟩ := id h
    exact hR _ (h.used _) ⟨[b], (Mod.refl [b] w).set (p := ⟨b, 0, none⟩) (.inl (by simp)) _, by intro x hx; simp only [List.mem_cons, List.not_mem_nil, or_false] at hx; subst hx; exact ⟨hb1, .inl ⟨_, _, _, hbk, .inr rfl⟩⟩⟩
  · refine (bCheck_used b w h.cell0).mono ?_
    rintro e w' ⟨rfl, rfl⟩
    exact hR _ h (BM.refl B _)
theorem infoU8 : (Try.prog.info? 5).map (fun i => (i.zero, i.size, i.bytes)) = some (some (.int .u8 0), 1, 1) := by kernel_rfl
set_option maxHeartbeats 2000000 in
theorem bWrite_cps (B b : Nat) (bs : List Value) (s : List UInt8) (w : World) (h : IsBuilderF 101 5 B b bs w) (hlen : bs.length + s.length ≤ 140737488355328) (hBw : B ≤ w.heap.size) (R : Ending → World → Prop)
    (hR : ∀ w', BuilderAtF 101 5 B b (.pointer (some ⟨b, 0, none⟩)) (bs ++ strCells ⟨s.toArray⟩) w' → BM B w w' → R (.returned (.tuple #[.int .i64 s.length, .nilIface])) w') :
    Calls Try.prog 58 #[.pointer (some ⟨b, 0, none⟩), .string ⟨s.toArray⟩] w R := by
  obtain ⟨i0, hi, hz⟩ := Option.map_eq_some_iff.1 infoU8
  simp only [Prod.mk.injEq] at hz
  obtain ⟨hz0, hz1, hz2⟩ := hz
  refine calls_go 4000 okT Try.func58 rfl (rs := [.tmp 4, .tmp 5]) rfl Try.ntmps58 (args := [.pointer (some ⟨b, 0, none⟩), .string ⟨s.toArray⟩]) ?_
  simp (config := { maxSteps := 1000000 }) (disch := first | omega | (simp only [sizeAlloc, sizeDrew, sizeSet, sizePut] <;> omega) | fail) only [GS1, GS2, GS3, GS4, GS5, GS6, GS7, GS8, GS9, GS10, GS11, TT_eq, TTl, Nat.reduceAdd, Nat.reduceMul, Nat.reduceSub, Nat.reduceDiv, Nat.reduceMod, Nat.reducePow, Nat.reduceEqDiff, ↓reduceIte, reduceCtorEq, true_and, and_true, and_self, false_and, and_false, Int.reduceToNat, Int.reduceAdd, Int.reduceSub, Int.reduceMul, cond_true, cond_false, List.toList_toArray, Option.map_some, Option.map_none, Option.some.injEq, List.cons_append, List.nil_append, List.length_cons, List.length_nil, List.getD_cons_zero, List.getD_cons_succ]
  refine ⟨fok79, bCheck_cps B b bs _ h _ fun w1 h1 hb1 => .inl ⟨_, rfl, hold_ops okT (rs := [.tmp 4, .tmp 5]) rfl ?_⟩⟩
  obtain ⟨hB, v, hbk, hown, hne⟩ := h1
  have c1 : w1.cell? ⟨b, 1, none⟩ = some v := by rw [cellOf hbk]; rfl
  simp (config := { maxSteps := 1000000 }) (disch := first | omega | (simp only [sizeAlloc, sizeDrew, sizeSet, sizePut] <;> omega) | fail) only [GS1, GS2, GS3, GS4, GS5, GS6, GS7, GS8, GS9, GS10, GS11, TT_eq, TTl, Nat.reduceAdd, Nat.reduceMul, Nat.reduceSub, Nat.reduceDiv, Nat.reduceMod, Nat.reducePow, Nat.reduceEqDiff, ↓reduceIte, reduceCtorEq, true_and, and_true, and_self, false_and, and_false, Int.reduceToNat, Int.reduceAdd, Int.reduceSub, Int.reduceMul, cond_true, cond_false, List.toList_toArray, Option.map_some, Option.map_none, Option.some.injEq, List.cons_append, List.nil_append, List.length_cons, List.length_nil, List.getD_cons_zero, List.getD_cons_succ, c1]
  have hsz : (⟨s.toArray⟩ : ByteArray).size = s.length := rfl
  have hbs := (hb1.below hBw).size
  refine hold_appendStr rfl Try.underlying99 Try.underlying9 hi hz0 hz1 hz2 B hown rfl rfl (by rw [hsz]; unfold maxLen; omega) (by rw [hsz]; omega) (by omega) fun v' w2 hown' hg => ?_
  rw [hsz] at hown'
  have hlt : b < w1.heap.size := ltOf hbk
  have hb2 : w2.heap[b]? = some (.cells #[.pointer (some ⟨b, 0, none⟩), v] 101 (0, 0)) := by
    rw [hg.block b hlt (fun e => hne e.symm)]; exact hbk
  have d1 : w2.cell? ⟨b, 1, none⟩ = some v := by rw [cellOf hb2]; rfl
  have f1 := frozenOf (o := 1) hb2
  have hB2 : BM B w w2 := hb1.trans ⟨v.ownBlock.toList, (Mod.refl _ w1).grown hg (fun k hk => .inl (by simp [hk])), fun x hx => by
    have hx' : v.ownBlock = some x := by simpa using hx
    refine ⟨(hown.lt x hx').1, ?_⟩
    rcases hown.2 with ⟨rfl, _⟩ | ⟨g, cap, cur, fz, rfl, _, hg, _⟩
    · simp [Value.ownBlock] at hx'
    · simp only [Value.ownBlock, Option.some.injEq] at hx'
      subst hx'
      exact .inl ⟨_, _, _, hg, .inl rfl⟩⟩
  obtain ⟨ao, n', cap, rfl⟩ : ∃ ao n' cap, v' = .slice ao n' cap := by
    rcases hown'.2 with ⟨hv, _⟩ | ⟨g, cap, cur, fz, hv, _⟩
    · exact ⟨_, _, _, hv⟩
    · exact ⟨_, _, _, hv⟩
  refine hold_ops okT (rs := [.tmp 4, .tmp 5]) rfl ?_
  simp (config := { maxSteps := 1000000 }) (disch := first | omega | (simp only [sizeAlloc, sizeDrew, sizeSet, sizePut] <;> omega) | fail) only [GS1, GS2, GS3, GS4, GS5, GS6, GS7, GS8, GS9, GS10, GS11, TT_eq, TTl, Nat.reduceAdd, Nat.reduceMul, Nat.reduceSub, Nat.reduceDiv, Nat.reduceMod, Nat.reducePow, Nat.reduceEqDiff, ↓reduceIte, reduceCtorEq, true_and, and_true, and_self, false_and, and_false, Int.reduceToNat, Int.reduceAdd, Int.reduceSub, Int.reduceMul, cond_true, cond_false, List.toList_toArray, Option.map_some, Option.map_none, Option.some.injEq, List.cons_append, List.nil_append, List.length_cons, List.length_nil, List.getD_cons_zero, List.getD_cons_succ, d1, f1]
  refine hR _ (BuilderAtF.put hB hb2 (bs' := bs ++ strCells ⟨s.toArray⟩) ?_ (by decide)) (hB2.trans ⟨[b], (Mod.refl [b] w2).set (p := ⟨b, 1, none⟩) (.inl (by simp)) _, by intro x hx; simp only [List.mem_cons, List.not_mem_nil, or_false] at hx; subst hx; exact ⟨hB, .inl ⟨_, _, _, hb2, .inr rfl⟩⟩⟩)
  rw [List.length_append, strCells_length, hsz]; exact hown'
theorem bLen_cps (B b : Nat) (bs : List Value) (w : World) (h : IsBuilderF 101 5 B b bs w) (hl : bs.length ≤ 140737488355328) (R : Ending → World → Prop) (hR : R (.returned (.int .i64 bs.length)) w) :
    Calls Try.prog 59 #[.pointer (some ⟨b, 0, none⟩)] w R := by
  obtain ⟨p, hB, v, hbk, hown, hne⟩ : ∃ p, BuilderAtF 101 5 B b p bs w := by
    rcases h with h | h
    · exact ⟨_, h⟩
    · exact ⟨_, h⟩
  obtain ⟨ao, cap, rfl⟩ : ∃ ao cap, v = .slice ao bs.length cap := by
    rcases hown.2 with ⟨hv, h0⟩ | ⟨g, cap, cur, fz, hv, _⟩
    · exact ⟨none, 0, by rw [hv, h0]⟩
    · exact ⟨_, _, hv⟩
  have c1 : w.cell? ⟨b, 1, none⟩ = some (.slice ao bs.length cap) := by rw [cellOf hbk]; rfl
  refine calls_go 4000 okT Try.func59 rfl (rs := [.tmp 2]) rfl Try.ntmps59 (args := [.pointer (some ⟨b, 0, none⟩)]) ?_
  simp (config := { maxSteps := 1000000 }) (disch := first | omega | (simp only [sizeAlloc, sizeDrew, sizeSet, sizePut] <;> omega) | fail) only [GS1, GS2, GS3, GS4, GS5, GS6, GS7, GS8, GS9, GS10, GS11, TT_eq, TTl, Nat.reduceAdd, Nat.reduceMul, Nat.reduceSub, Nat.reduceDiv, Nat.reduceMod, Nat.reducePow, Nat.reduceEqDiff, ↓reduceIte, reduceCtorEq, true_and, and_true, and_self, false_and, and_false, Int.reduceToNat, Int.reduceAdd, Int.reduceSub, Int.reduceMul, cond_true, cond_false, List.toList_toArray, Option.map_some, Option.map_none, Option.some.injEq, List.cons_append, List.nil_append, List.length_cons, List.length_nil, List.getD_cons_zero, List.getD_cons_succ, c1]
  exact hR
end Go.Proofs.Yticoollhaachfaa
