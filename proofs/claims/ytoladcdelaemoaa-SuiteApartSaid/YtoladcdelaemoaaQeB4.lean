/-
  term.Check. What is made of texts: data, atoms, numbers; the reference's rows (walks). strings.Builder (walks; after the shelf's own). strings.Builder: WriteString, Len (walks). strings.Builder: String (walk; after the shelf's own). strings.Builder: what holds a text; its calls, as contracts. What letters and parts make (walks). The reference's made; rows, hashes, macs, seals (walks).
-/
import Derived.Test.YtoladcdelaemoaaQeB3
import Derived.Shelf.Strings.BuilderX
import Derived.Lib.Builder
import Derived.Lib.AppendStr
import Derived.Lib.FrozenHead
import Derived.Lib.Walk
import Derived.Shelf.RegionOpenPlain
import Derived.Lib.UnsafeStr
set_option linter.unusedSimpArgs false
set_option linter.unusedVariables false
set_option maxRecDepth 20000
namespace Go.Proofs.Ytoladcdelaemoaa
open Go Go.Wk Go.RowKit
attribute [local irreducible] go Hold
set_option maxHeartbeats 2000000 in
theorem tCheck_cps (S : List UInt8) (hS : S.length ≤ maxLen) (w : World) (R : Ending → World → Prop) (hR : ∀ w', Mod [] w w' → R (.returned (.int .i64 (checkS S))) w') :
    Calls Try.prog 25 #[.string ⟨S.toArray⟩] w R := by
  have hS' := hS
  unfold maxLen at hS
  have hl := readS_len S
  unfold checkS at hR
  refine calls_go 4000 okT Try.func25 rfl (rs := [.tmp 2]) rfl Try.ntmps25 (args := [.string ⟨S.toArray⟩]) ?_
  simp (maxSteps := 1000000) (disch := first | omega | (simp only [sizeAlloc, sizeDrew, sizeSet, sizePut] <;> omega) | fail) only [GS, TT_eq, TTl, Nat.reduceAdd, Nat.reduceMul, Nat.reduceSub, Nat.reduceDiv, Nat.reduceMod, Nat.reducePow, Nat.reduceEqDiff, ↓reduceIte, reduceCtorEq, Int.reduceToNat, Int.reduceAdd, Int.reduceSub, Int.reduceMul]
  refine ⟨fok46, tRead_cps S hS' _ _ fun w1 hM => .inl ⟨_, rfl, hold_ops okT (rs := [.tmp 2]) rfl ?_⟩⟩
  have hR := hR w1 hM
  generalize readS S = X at hR hl ⊢
  obtain ⟨m, e⟩ := X
  unfold rd2V
  simp only at hR hl ⊢
  by_cases he : e = 0
  · subst he
    simp only [if_true] at hR
    by_cases h : m = S.length
    · rw [if_pos h] at hR
      simp (maxSteps := 1000000) (disch := first | omega | (simp only [sizeAlloc, sizeDrew, sizeSet, sizePut] <;> omega) | fail) only [GS, TT_eq, TTl, Nat.reduceAdd, Nat.reduceMul, Nat.reduceSub, Nat.reduceDiv, Nat.reduceMod, Nat.reducePow, Nat.reduceEqDiff, ↓reduceIte, reduceCtorEq, Int.reduceToNat, Int.reduceAdd, Int.reduceSub, Int.reduceMul]
      exact hR
    · rw [if_neg h] at hR
      simp (maxSteps := 1000000) (disch := first | omega | (simp only [sizeAlloc, sizeDrew, sizeSet, sizePut] <;> omega) | fail) only [GS, TT_eq, TTl, Nat.reduceAdd, Nat.reduceMul, Nat.reduceSub, Nat.reduceDiv, Nat.reduceMod, Nat.reducePow, Nat.reduceEqDiff, ↓reduceIte, reduceCtorEq, Int.reduceToNat, Int.reduceAdd, Int.reduceSub, Int.reduceMul]
      exact hR
  · rw [if_neg he] at hR
    simp (maxSteps := 1000000) (disch := first | omega | (simp only [sizeAlloc, sizeDrew, sizeSet, sizePut] <;> omega) | fail) only [GS, TT_eq, TTl, Nat.reduceAdd, Nat.reduceMul, Nat.reduceSub, Nat.reduceDiv, Nat.reduceMod, Nat.reducePow, Nat.reduceEqDiff, ↓reduceIte, reduceCtorEq, Int.reduceToNat, Int.reduceAdd, Int.reduceSub, Int.reduceMul]
    exact hR
def strV (l : List UInt8) : Value := .string ⟨l.toArray⟩
theorem getS {xs : List (List UInt8)} {k : Nat} (h : k < xs.length) : (xs.map strV)[k]? = some (.string ⟨xs[k].toArray⟩) := by
  rw [List.getElem?_map, List.getElem?_eq_getElem h]; rfl
def allS (xs : List (List UInt8)) : Bool := xs.all fun s => decide (checkS s = 0)
set_option maxHeartbeats 2000000 in
theorem tIs_cps (sa : Value) (xs : List (List UInt8)) (w : World) (R : Ending → World → Prop) (hx : xs.length ≤ 9223372036854775807) (hxs : ∀ s ∈ xs, s.length ≤ maxLen) (ha : Rd w 1 sa xs.length (xs.map strV))
    (hR : ∀ w', Mod [] w w' → R (.returned (.bool (allS xs))) w') : Calls Try.prog 47 #[sa] w R := by
  obtain ⟨a, ca, rfl⟩ := ha.slice
  refine calls_go 4000 okT Try.func47 rfl (rs := [.tmp 2]) rfl Try.ntmps47 (args := [.slice a xs.length ca]) ?_
  simp (maxSteps := 1000000) (disch := first | omega | (simp only [sizeAlloc, sizeDrew, sizeSet, sizePut] <;> omega) | fail) only [GS, TT_eq, TTl, Nat.reduceAdd, Nat.reduceMul, Nat.reduceSub, Nat.reduceDiv, Nat.reduceMod, Nat.reducePow, Nat.reduceEqDiff, ↓reduceIte, reduceCtorEq, Int.reduceToNat, Int.reduceAdd, Int.reduceSub, Int.reduceMul]
  refine hold_loop okT (rs := [.tmp 2]) rfl [7] [2, 4, 8, 9, 10, 11, 12, 13, 14] (fun vs w' => ∃ k : Nat, k ≤ xs.length ∧ vs = [.int .i64 k] ∧ Mod [] w w' ∧ allS (xs.take k) = true) (fun vs _ => match vs with | [.int _ i] => xs.length - i.toNat | _ => 0) (by kernel_rfl) ⟨0, by omega, rfl, Mod.refl _ _, rfl⟩ ?_
  rintro vs w' J ⟨k, hk, rfl, hM, hn⟩
  have hb := ha.mod hM (by simp)
  by_cases hlt : k < xs.length
  · obtain ⟨b1, o1, c1, e1, _, g1⟩ := hb.at (by omega) (by omega)
    have f1 := g1 k _ (getS hlt)
    rw [Value.slice.injEq] at e1
    obtain ⟨rfl, -, -⟩ := e1
    have hms := List.getElem_mem hlt
    have hall : allS (xs.take (k + 1)) = decide (checkS xs[k] = 0) := by
      unfold allS at hn ⊢
      rw [List.take_succ_eq_append_getElem hlt, List.all_append, hn]; simp
    have hno : checkS xs[k] ≠ 0 → allS xs = false := fun h => by
      unfold allS
      rw [List.all_eq_false]; exact ⟨_, hms, by simp [h]⟩
    simp (maxSteps := 1000000) (disch := first | omega | (simp only [sizeAlloc, sizeDrew, sizeSet, sizePut] <;> omega) | fail) only [GS, TT_eq, TTl, Nat.reduceAdd, Nat.reduceMul, Nat.reduceSub, Nat.reduceDiv, Nat.reduceMod, Nat.reducePow, Nat.reduceEqDiff, ↓reduceIte, reduceCtorEq, Int.reduceToNat, Int.reduceAdd, Int.reduceSub, Int.reduceMul, f1]
    refine ⟨fok25, tCheck_cps xs[k] (hxs _ hms) _ _ fun w1 hM1 => .inl ⟨_, rfl, hold_ops okT (rs := [.tmp 2]) rfl ?_⟩⟩
    generalize checkS xs[k] = e at hall hno ⊢
    have hM2 := hM.trans hM1 (by simp)
    by_cases he : e = 0
    · subst he
      simp (maxSteps := 1000000) (disch := first | omega | (simp only [sizeAlloc, sizeDrew, sizeSet, sizePut] <;> omega) | fail) only [GS, TT_eq, TTl, Nat.reduceAdd, Nat.reduceMul, Nat.reduceSub, Nat.reduceDiv, Nat.reduceMod, Nat.reducePow, Nat.reduceEqDiff, ↓reduceIte, reduceCtorEq, Int.reduceToNat, Int.reduceAdd, Int.reduceSub, Int.reduceMul]
      exact ⟨⟨k + 1, by omega, rfl, hM2, by rw [hall]; rfl⟩, by omega⟩
    · rw [hno he] at hR
      simp (maxSteps := 1000000) (disch := first | omega | (simp only [sizeAlloc, sizeDrew, sizeSet, sizePut] <;> omega) | fail) only [GS, TT_eq, TTl, Nat.reduceAdd, Nat.reduceMul, Nat.reduceSub, Nat.reduceDiv, Nat.reduceMod, Nat.reducePow, Nat.reduceEqDiff, ↓reduceIte, reduceCtorEq, Int.reduceToNat, Int.reduceAdd, Int.reduceSub, Int.reduceMul]
      exact hR _ hM2
  · have e : k = xs.length := by omega
    subst e
    rw [List.take_length] at hn
    rw [hn] at hR
    simp (maxSteps := 1000000) (disch := first | omega | (simp only [sizeAlloc, sizeDrew, sizeSet, sizePut] <;> omega) | fail) only [GS, TT_eq, TTl, Nat.reduceAdd, Nat.reduceMul, Nat.reduceSub, Nat.reduceDiv, Nat.reduceMod, Nat.reducePow, Nat.reduceEqDiff, ↓reduceIte, reduceCtorEq, Int.reduceToNat, Int.reduceAdd, Int.reduceSub, Int.reduceMul]
    exact hR _ hM
end Go.Proofs.Ytoladcdelaemoaa
set_option linter.unusedSimpArgs false
set_option linter.unusedVariables false
set_option maxRecDepth 20000
namespace Go.Proofs.Ytoladcdelaemoaa
open Go Go.Wk Go.RowKit
attribute [local irreducible] go Hold
def dataS (s : List UInt8) : List UInt8 × Int := if 1024 < s.length then ([], 5) else (100 :: (numL s.length ++ s), 0)
def atomS (s : List UInt8) : List UInt8 × Int := if 32 < s.length then ([], 5) else if nameS s = true then (97 :: (numL s.length ++ s), 0) else ([], 7)
def stV (x : List UInt8 × Int) : Value := .tuple #[.string ⟨x.1.toArray⟩, .int .i64 x.2]
set_option maxHeartbeats 1000000 in
theorem tData_cps (s : List UInt8) (hs : s.length ≤ maxLen) (w : World) (R : Ending → World → Prop) (hR : ∀ w', Mod [] w w' → R (.returned (stV (dataS s))) w') :
    Calls Try.prog 30 #[.string ⟨s.toArray⟩] w R := by
  unfold maxLen at hs
  unfold dataS at hR
  refine calls_go 4000 okT Try.func30 rfl (rs := [.tmp 2, .tmp 3]) rfl Try.ntmps30 (args := [.string ⟨s.toArray⟩]) ?_
  by_cases h : 1024 < s.length
  · rw [if_pos h] at hR
    simp (maxSteps := 1000000) (disch := first | omega | (simp only [sizeAlloc, sizeDrew, sizeSet, sizePut] <;> omega) | fail) only [GS, TT_eq, TTl, Nat.reduceAdd, Nat.reduceMul, Nat.reduceSub, Nat.reduceDiv, Nat.reduceMod, Nat.reducePow, Nat.reduceEqDiff, ↓reduceIte, reduceCtorEq, Int.reduceToNat, Int.reduceAdd, Int.reduceSub, Int.reduceMul]
    exact hR _ (Mod.refl _ _)
  · rw [if_neg h] at hR
    have hl := numL_len (v := s.length) (by omega)
    simp (maxSteps := 1000000) (disch := first | omega | (simp only [sizeAlloc, sizeDrew, sizeSet, sizePut] <;> omega) | fail) only [GS, TT_eq, TTl, Nat.reduceAdd, Nat.reduceMul, Nat.reduceSub, Nat.reduceDiv, Nat.reduceMod, Nat.reducePow, Nat.reduceEqDiff, ↓reduceIte, reduceCtorEq, Int.reduceToNat, Int.reduceAdd, Int.reduceSub, Int.reduceMul]
    refine ⟨fok51, oText_cps s (by omega) _ _ fun w1 hM => .inl ⟨_, rfl, hold_ops okT (rs := [.tmp 2, .tmp 3]) rfl ?_⟩⟩
    simp (maxSteps := 1000000) (disch := first | omega | (simp only [sizeAlloc, sizeDrew, sizeSet, sizePut] <;> omega) | fail) only [GS, TT_eq, TTl, Nat.reduceAdd, Nat.reduceMul, Nat.reduceSub, Nat.reduceDiv, Nat.reduceMod, Nat.reducePow, Nat.reduceEqDiff, ↓reduceIte, reduceCtorEq, Int.reduceToNat, Int.reduceAdd, Int.reduceSub, Int.reduceMul, List.length_append]
    exact hR _ hM
set_option maxHeartbeats 1000000 in
theorem tAtom_cps (s : List UInt8) (hs : s.length ≤ maxLen) (w : World) (R : Ending → World → Prop) (hR : ∀ w', Mod [] w w' → R (.returned (stV (atomS s))) w') :
    Calls Try.prog 29 #[.string ⟨s.toArray⟩] w R := by
  have hs' := hs
  unfold maxLen at hs
  unfold atomS at hR
  refine calls_go 4000 okT Try.func29 rfl (rs := [.tmp 2, .tmp 3]) rfl Try.ntmps29 (args := [.string ⟨s.toArray⟩]) ?_
  by_cases h : 32 < s.length
  · rw [if_pos h] at hR
    simp (maxSteps := 1000000) (disch := first | omega | (simp only [sizeAlloc, sizeDrew, sizeSet, sizePut] <;> omega) | fail) only [GS, TT_eq, TTl, Nat.reduceAdd, Nat.reduceMul, Nat.reduceSub, Nat.reduceDiv, Nat.reduceMod, Nat.reducePow, Nat.reduceEqDiff, ↓reduceIte, reduceCtorEq, Int.reduceToNat, Int.reduceAdd, Int.reduceSub, Int.reduceMul]
    exact hR _ (Mod.refl _ _)
  · rw [if_neg h] at hR
    have hl := numL_len (v := s.length) (by omega)
    simp (maxSteps := 1000000) (disch := first | omega | (simp only [sizeAlloc, sizeDrew, sizeSet, sizePut] <;> omega) | fail) only [GS, TT_eq, TTl, Nat.reduceAdd, Nat.reduceMul, Nat.reduceSub, Nat.reduceDiv, Nat.reduceMod, Nat.reducePow, Nat.reduceEqDiff, ↓reduceIte, reduceCtorEq, Int.reduceToNat, Int.reduceAdd, Int.reduceSub, Int.reduceMul]
    refine ⟨fok50, tNamed_cps s hs' _ _ fun w1 hM => .inl ⟨_, rfl, hold_ops okT (rs := [.tmp 2, .tmp 3]) rfl ?_⟩⟩
    generalize nameS s = b at hR ⊢
    cases b
    · rw [if_neg (by simp)] at hR
      simp (maxSteps := 1000000) (disch := first | omega | (simp only [sizeAlloc, sizeDrew, sizeSet, sizePut] <;> omega) | fail) only [GS, TT_eq, TTl, Nat.reduceAdd, Nat.reduceMul, Nat.reduceSub, Nat.reduceDiv, Nat.reduceMod, Nat.reducePow, Nat.reduceEqDiff, ↓reduceIte, reduceCtorEq, Int.reduceToNat, Int.reduceAdd, Int.reduceSub, Int.reduceMul]
      exact hR _ hM
    · rw [if_pos rfl] at hR
      simp (maxSteps := 1000000) (disch := first | omega | (simp only [sizeAlloc, sizeDrew, sizeSet, sizePut] <;> omega) | fail) only [GS, TT_eq, TTl, Nat.reduceAdd, Nat.reduceMul, Nat.reduceSub, Nat.reduceDiv, Nat.reduceMod, Nat.reducePow, Nat.reduceEqDiff, ↓reduceIte, reduceCtorEq, Int.reduceToNat, Int.reduceAdd, Int.reduceSub, Int.reduceMul]
      refine ⟨fok51, oText_cps s (by omega) _ _ fun w2 hM2 => .inl ⟨_, rfl, hold_ops okT (rs := [.tmp 2, .tmp 3]) rfl ?_⟩⟩
      simp (maxSteps := 1000000) (disch := first | omega | (simp only [sizeAlloc, sizeDrew, sizeSet, sizePut] <;> omega) | fail) only [GS, TT_eq, TTl, Nat.reduceAdd, Nat.reduceMul, Nat.reduceSub, Nat.reduceDiv, Nat.reduceMod, Nat.reducePow, Nat.reduceEqDiff, ↓reduceIte, reduceCtorEq, Int.reduceToNat, Int.reduceAdd, Int.reduceSub, Int.reduceMul, List.length_append]
      exact hR _ (hM.trans hM2 (by simp))
end Go.Proofs.Ytoladcdelaemoaa
set_option linter.unusedSimpArgs false
set_option linter.unusedVariables false
set_option maxRecDepth 20000
namespace Go.Proofs.Ytoladcdelaemoaa
open Go Go.Wk Go.RowKit
attribute [local irreducible] go Hold
theorem sizeB : (Try.prog.info? 117).map (·.size) = some 2 := by kernel_rfl
theorem liesB : liesAt Try.prog Try.prog.depth 117 (2 / Try.prog.cellsOf 117) 0 117 1 = true := by kernel_rfl
set_option maxHeartbeats 1000000 in
set_option maxRecDepth 100000 in
theorem bCheck_used (b : Nat) (w : World) (h0 : w.cell? ⟨b, 0, none⟩ = some (.pointer (some ⟨b, 0, none⟩))) :
    Calls Try.prog 82 #[.pointer (some ⟨b, 0, none⟩)] w fun e w' => e = .returned (.tuple #[]) ∧ w' = w := by
  obtain ⟨j, hj, _⟩ := Option.map_eq_some_iff.1 sizeB
  go_enter Try.func82, Try.ntmps82
  go_wp2
  rw [Lib.run_neq_ptr_same w _ Try.underlying115 hj]
  go_wp2
  go_end0
  exact ⟨rfl, rfl⟩
set_option maxHeartbeats 1000000 in
set_option maxRecDepth 100000 in
theorem bCheck_fresh (b : Nat) (w : World) (h0 : w.cell? ⟨b, 0, none⟩ = some (.pointer none)) (hsh : w.shape? b = some (117, 2)) (hfz : w.frozen? ⟨b, 0, none⟩ = false) :
    Calls Try.prog 82 #[.pointer (some ⟨b, 0, none⟩)] w fun e w' => e = .returned (.tuple #[]) ∧ w' = w.setCell ⟨b, 0, none⟩ (.pointer (some ⟨b, 0, none⟩)) := by
  obtain ⟨j, hj, hjs⟩ := Option.map_eq_some_iff.1 sizeB
  go_enter Try.func82, Try.ntmps82
  go_wp2
  rw [Lib.run_to_unsafe w ⟨b, 0, none⟩ Try.underlying115 Try.underlying146 hj (by rw [hjs]; decide) hsh (Nat.zero_lt_succ 1)]
  simp only [Result.andThen]
  rw [Oper.upon_value]
  go_wp2
  rw [run_callFunc_extern Try.func97 (by kernel_rfl) (by kernel_rfl) (by kernel_rfl) (e := Extern.AbiNoEscape.same) (by kernel_rfl)]
  rw [Lib.run_noEscape]
  simp only [Result.andThen]
  rw [Oper.upon_value]
  go_wp2
  rw [Lib.run_from_unsafe w ⟨b, 0, none⟩ Try.underlying146 Try.underlying115 hj hsh liesB]
  simp only [Result.andThen]
  rw [Oper.upon_value]
  go_wp2
  go_end0
  exact ⟨rfl, rfl⟩
end Go.Proofs.Ytoladcdelaemoaa
set_option linter.unusedSimpArgs false
set_option linter.unusedVariables false
set_option maxRecDepth 20000
namespace Go.Proofs.Ytoladcdelaemoaa
open Go Go.Wk Go.RowKit
attribute [local irreducible] go Hold
open Go.Lib
theorem hold_appendStr {T : Tab} {P : Program} {V : Env} {R : Ending → World → Prop} {F : Exit → Act → World → Prop} {all rest : List Oper} {o : Oper} {k : List KI} {fs : List Value} {w : World} {s x : Operand} {t u e : Nat} {i : TypeInfo}
    (ho : o.op = .call ⟨.builtin .append, #[s, x], #[t, u]⟩) (ht : P.underlying t = some (.slice e)) (hu : P.underlying u = some .string) (hi : P.info? e = some i) (hz : i.zero = some (.int .u8 0)) (hsize : i.size = 1) (hby : i.bytes = 1)
    (base : Nat) {v : Value} {n : Nat} {xs : List Value} (hown : w.ownsRowF base e 1 v n xs) {str : ByteArray} (hv : ev fs s = v) (hx : ev fs x = .string str) (h63 : n + str.size ≤ maxLen) (hb : n + str.size ≤ 140737488355328) (hbase : base ≤ w.heap.size)
    (h : ∀ v' w', w'.ownsRowF base e 1 v' (n + str.size) (xs ++ strCells str) → w.grownBy w' v.ownBlock → Hold P T V R F (.ops all rest) k (put fs o.dst v') w') : Hold P T V R F (.gop .run all o rest) k fs w := by
  obtain ⟨ty, cs, hr⟩ := exec_builtin (P := P) (fs := fs) ho w
  obtain ⟨v', w', a1, a2, a3, _⟩ := run_append_own_stringF (P := P) w base t u ty e i ht hu hi hz hsize hby v n xs hown str h63 hb hbase
  refine hold_val (fun c => by rw [ho]; simp) (v := v') (w' := w') ?_ (h v' w' a2 a3)
  rw [hr]; simp only [evs, hv, hx, builtin, Sem.run_bind, a1, Result.andThen_ok, Sem.run_pure]
/-- What a Builder's call may have turned: the Builder, its row of bytes. -/
def BC (w : World) (x : Nat) : Prop := (∃ (cs : Array Value) (t : Nat) (fr : Nat × Nat), w.heap[x]? = some (.cells cs t fr) ∧ (t = 5 ∨ t = 117)) ∨ w.heap.size ≤ x
def BM (b : Nat) (w w' : World) : Prop := ∃ Z, Mod Z w w' ∧ ∀ x ∈ Z, b ≤ x ∧ BC w x
theorem BM.refl (b : Nat) (w : World) : BM b w w := ⟨[], Mod.refl _ _, by simp⟩
theorem BM.trans {b : Nat} {w w' w'' : World} (h : BM b w w') (k : BM b w' w'') : BM b w w'' := by
  obtain ⟨Z, h1, h2⟩ := h
  obtain ⟨Y, k1, k2⟩ := k
  refine ⟨Z ++ Y, (h1.mono (by simp +contextual)).trans k1 (fun x hx => .inl (by simp [hx])), fun x hx => ?_⟩
  rw [List.mem_append] at hx
  by_cases hz : x ∈ Z
  · exact h2 x hz
  · have hy := hx.resolve_left hz
    refine ⟨(k2 x hy).1, ?_⟩
    by_cases hlt : x < w.heap.size
    · rcases (k2 x hy).2 with ⟨cs, t, fr, g1, g2⟩ | g
      · rw [h1.block x hlt hz] at g1; exact .inl ⟨cs, t, fr, g1, g2⟩
      · have := h1.size; omega
    · exact .inr (by omega)
theorem BM.below {b : Nat} {w w' : World} (h : BM b w w') (hb : b ≤ w.heap.size) : Below b w w' := by
  obtain ⟨Z, h1, h2⟩ := h
  exact h1.below hb fun x hx => (h2 x hx).1
theorem bCheck_cps (B b : Nat) (bs : List Value) (w : World) (h : IsBuilderF 117 5 B b bs w) (R : Ending → World → Prop) (hR : ∀ w', BuilderAtF 117 5 B b (.pointer (some ⟨b, 0, none⟩)) bs w' → BM B w w' → R (.returned (.tuple #[])) w') :
    Calls Try.prog 82 #[.pointer (some ⟨b, 0, none⟩)] w R := by
  rcases h with h | h
  · refine (bCheck_fresh b w h.cell0 h.shape h.frozen0).mono ?_
    rintro e w' ⟨rfl, rfl⟩
    have hb1 := h.1
    obtain ⟨_, v, hbk, _⟩ := id h
    exact hR _ (h.used _) ⟨[b], (Mod.refl [b] w).set (p := ⟨b, 0, none⟩) (.inl (by simp)) _, by intro x hx; simp only [List.mem_cons, List.not_mem_nil, or_false] at hx; subst hx; exact ⟨hb1, .inl ⟨_, _, _, hbk, .inr rfl⟩⟩⟩
  · refine (bCheck_used b w h.cell0).mono ?_
    rintro e w' ⟨rfl, rfl⟩
    exact hR _ h (BM.refl B _)
theorem infoU8 : (Try.prog.info? 5).map (fun i => (i.zero, i.size, i.bytes)) = some (some (.int .u8 0), 1, 1) := by kernel_rfl
set_option maxHeartbeats 2000000 in
theorem bWrite_cps (B b : Nat) (bs : List Value) (s : List UInt8) (w : World) (h : IsBuilderF 117 5 B b bs w) (hlen : bs.length + s.length ≤ 140737488355328) (hBw : B ≤ w.heap.size) (R : Ending → World → Prop)
    (hR : ∀ w', BuilderAtF 117 5 B b (.pointer (some ⟨b, 0, none⟩)) (bs ++ strCells ⟨s.toArray⟩) w' → BM B w w' → R (.returned (.tuple #[.int .i64 s.length, .nilIface])) w') :
    Calls Try.prog 69 #[.pointer (some ⟨b, 0, none⟩), .string ⟨s.toArray⟩] w R := by
  obtain ⟨i0, hi, hz⟩ := Option.map_eq_some_iff.1 infoU8
  simp only [Prod.mk.injEq] at hz
  obtain ⟨hz0, hz1, hz2⟩ := hz
  refine calls_go 4000 okT Try.func69 rfl (rs := [.tmp 4, .tmp 5]) rfl Try.ntmps69 (args := [.pointer (some ⟨b, 0, none⟩), .string ⟨s.toArray⟩]) ?_
  simp (maxSteps := 1000000) (disch := first | omega | (simp only [sizeAlloc, sizeDrew, sizeSet, sizePut] <;> omega) | fail) only [GS, TT_eq, TTl, Nat.reduceAdd, Nat.reduceMul, Nat.reduceSub, Nat.reduceDiv, Nat.reduceMod, Nat.reducePow, Nat.reduceEqDiff, ↓reduceIte, reduceCtorEq, Int.reduceToNat, Int.reduceAdd, Int.reduceSub, Int.reduceMul]
  refine ⟨fok82, bCheck_cps B b bs _ h _ fun w1 h1 hb1 => .inl ⟨_, rfl, hold_ops okT (rs := [.tmp 4, .tmp 5]) rfl ?_⟩⟩
  obtain ⟨hB, v, hbk, hown, hne⟩ := h1
  have c1 : w1.cell? ⟨b, 1, none⟩ = some v := by rw [cellOf hbk]; rfl
  simp (maxSteps := 1000000) (disch := first | omega | (simp only [sizeAlloc, sizeDrew, sizeSet, sizePut] <;> omega) | fail) only [GS, TT_eq, TTl, Nat.reduceAdd, Nat.reduceMul, Nat.reduceSub, Nat.reduceDiv, Nat.reduceMod, Nat.reducePow, Nat.reduceEqDiff, ↓reduceIte, reduceCtorEq, Int.reduceToNat, Int.reduceAdd, Int.reduceSub, Int.reduceMul, c1]
  have hsz : (⟨s.toArray⟩ : ByteArray).size = s.length := rfl
  have hbs := (hb1.below hBw).size
  refine hold_appendStr rfl Try.underlying66 Try.underlying9 hi hz0 hz1 hz2 B hown rfl rfl (by rw [hsz]; unfold maxLen; omega) (by rw [hsz]; omega) (by omega) fun v' w2 hown' hg => ?_
  rw [hsz] at hown'
  have hlt : b < w1.heap.size := ltOf hbk
  have hb2 : w2.heap[b]? = some (.cells #[.pointer (some ⟨b, 0, none⟩), v] 117 (0, 0)) := by
    rw [hg.block b hlt (fun e => hne e.symm)]; exact hbk
  have d1 : w2.cell? ⟨b, 1, none⟩ = some v := by rw [cellOf hb2]; rfl
  have f1 := frozenOf (o := 1) hb2
  have hB2 : BM B w w2 := hb1.trans ⟨v.ownBlock.toList, (Mod.refl _ w1).grown hg (fun k hk => .inl (by simp [hk])), fun x hx => by
    have hx' : v.ownBlock = some x := by simpa using hx
    refine ⟨(hown.lt x hx').1, ?_⟩
    rcases hown.2 with ⟨rfl, _⟩ | ⟨g, cap, cur, fz, rfl, _, hg, _⟩
    · simp [Value.ownBlock] at hx'
    · simp only [Value.ownBlock, Option.some.injEq] at hx'
      subst hx'
      exact .inl ⟨_, _, _, hg, .inl rfl⟩⟩
  obtain ⟨ao, n', cap, rfl⟩ : ∃ ao n' cap, v' = .slice ao n' cap := by
    rcases hown'.2 with ⟨hv, _⟩ | ⟨g, cap, cur, fz, hv, _⟩
    · exact ⟨_, _, _, hv⟩
    · exact ⟨_, _, _, hv⟩
  refine hold_ops okT (rs := [.tmp 4, .tmp 5]) rfl ?_
  simp (maxSteps := 1000000) (disch := first | omega | (simp only [sizeAlloc, sizeDrew, sizeSet, sizePut] <;> omega) | fail) only [GS, TT_eq, TTl, Nat.reduceAdd, Nat.reduceMul, Nat.reduceSub, Nat.reduceDiv, Nat.reduceMod, Nat.reducePow, Nat.reduceEqDiff, ↓reduceIte, reduceCtorEq, Int.reduceToNat, Int.reduceAdd, Int.reduceSub, Int.reduceMul, d1, f1]
  refine hR _ (BuilderAtF.put hB hb2 (bs' := bs ++ strCells ⟨s.toArray⟩) ?_ (by decide)) (hB2.trans ⟨[b], (Mod.refl [b] w2).set (p := ⟨b, 1, none⟩) (.inl (by simp)) _, by intro x hx; simp only [List.mem_cons, List.not_mem_nil, or_false] at hx; subst hx; exact ⟨hB, .inl ⟨_, _, _, hb2, .inr rfl⟩⟩⟩)
  rw [List.length_append, strCells_length, hsz]; exact hown'
theorem bLen_cps (B b : Nat) (bs : List Value) (w : World) (h : IsBuilderF 117 5 B b bs w) (hl : bs.length ≤ 140737488355328) (R : Ending → World → Prop) (hR : R (.returned (.int .i64 bs.length)) w) :
    Calls Try.prog 70 #[.pointer (some ⟨b, 0, none⟩)] w R := by
  obtain ⟨p, hB, v, hbk, hown, hne⟩ : ∃ p, BuilderAtF 117 5 B b p bs w := by
    rcases h with h | h
    · exact ⟨_, h⟩
    · exact ⟨_, h⟩
  obtain ⟨ao, cap, rfl⟩ : ∃ ao cap, v = .slice ao bs.length cap := by
    rcases hown.2 with ⟨hv, h0⟩ | ⟨g, cap, cur, fz, hv, _⟩
    · exact ⟨none, 0, by rw [hv, h0]⟩
    · exact ⟨_, _, hv⟩
  have c1 : w.cell? ⟨b, 1, none⟩ = some (.slice ao bs.length cap) := by rw [cellOf hbk]; rfl
  refine calls_go 4000 okT Try.func70 rfl (rs := [.tmp 2]) rfl Try.ntmps70 (args := [.pointer (some ⟨b, 0, none⟩)]) ?_
  simp (maxSteps := 1000000) (disch := first | omega | (simp only [sizeAlloc, sizeDrew, sizeSet, sizePut] <;> omega) | fail) only [GS, TT_eq, TTl, Nat.reduceAdd, Nat.reduceMul, Nat.reduceSub, Nat.reduceDiv, Nat.reduceMod, Nat.reducePow, Nat.reduceEqDiff, ↓reduceIte, reduceCtorEq, Int.reduceToNat, Int.reduceAdd, Int.reduceSub, Int.reduceMul, c1]
  exact hR
end Go.Proofs.Ytoladcdelaemoaa
set_option linter.unusedSimpArgs false
set_option linter.unusedVariables false
set_option maxRecDepth 20000
namespace Go.Proofs.Ytoladcdelaemoaa
open Go Go.Wk Go.RowKit
attribute [local irreducible] go Hold
open Go.Lib
theorem cellsU8 : Try.prog.cellsOf 5 = 1 := by kernel_rfl
set_option maxHeartbeats 1000000 in
set_option maxRecDepth 100000 in
theorem bString (B b : Nat) (l : List UInt8) (w : World) (h : IsBuilderF 117 5 B b (byteCells l) w) (h0 : l ≠ []) :
    Calls Try.prog 71 #[.pointer (some ⟨b, 0, none⟩)] w fun e w' => e = .returned (.string ⟨l.toArray⟩) ∧ (IsBuilderF 117 5 B b (byteCells l) w' ∧ BM B w w') := by
  obtain ⟨p, hp, hAt⟩ : ∃ p, (p = .pointer none ∨ p = .pointer (some ⟨b, 0, none⟩)) ∧ BuilderAtF 117 5 B b p (byteCells l) w := by
    rcases h with h | h
    · exact ⟨_, .inl rfl, h⟩
    · exact ⟨_, .inr rfl, h⟩
  obtain ⟨hB, v, hbk, hown, hne⟩ := hAt
  have hl0 : l.length ≠ 0 := by simpa using h0
  rw [byteCells_length] at hown
  obtain ⟨g, cap, cur, fz, rfl, hbg, hg, hfz, hnc, hcm, hcs, htake⟩ : ∃ g cap cur fz, v = .slice (some ⟨g, 0, none⟩) l.length cap ∧ B ≤ g ∧ w.heap[g]? = some (.cells cur 5 fz) ∧ fz.2 ≤ l.length * 1 ∧ l.length ≤ cap ∧ cap ≤ maxLen ∧ cur.size = cap * 1 ∧ cur.toList.take (l.length * 1) = byteCells l := by
    rcases hown.2 with ⟨_, hz⟩ | ⟨g, cap, cur, fz, hv, r⟩
    · exact absurd hz hl0
    · exact ⟨g, cap, cur, fz, hv, r⟩
  have c1 : w.drew.cell? ⟨b, 1, none⟩ = some (.slice (some ⟨g, 0, none⟩) l.length cap) := by
    have : w.drew.heap[b]? = some (.cells #[p, .slice (some ⟨g, 0, none⟩) l.length cap] 117 (0, 0)) := hbk
    rw [cell_of_heap this]; rfl
  have hSD : (Builtin.unsafeSliceData_ #[66] 141 #[.slice (some ⟨g, 0, none⟩) l.length cap]).run Try.prog w.drew = .ok (.pointer (some ⟨g, 0, none⟩)) w.drew :=
    run_unsafeSliceData_row _ _ _ _ _ _ (by omega)
  have hUS : (Builtin.unsafeString_ #[141, 3] 9 #[.pointer (some ⟨g, 0, none⟩), .int .i64 l.length]).run Try.prog w.drew = .ok (.string ⟨l.toArray⟩) (w.drew.freeze ⟨g, 0, none⟩ l.length) := by
    refine run_unsafeString_row w.drew 141 3 9 5 Try.underlying141 cellsU8 g cur.size (by have hg' : w.drew.heap[g]? = some (.cells cur 5 fz) := hg; simp [World.shape?, hg']) l h0 (by omega) (by unfold maxLen at hcm; omega) ?_
    intro j x hx
    exact hown.cells (g := g) rfl j (.int .u8 x.toNat) (by simp [byteCells, hx])
  have hkeep : IsBuilderF 117 5 B b (byteCells l) (w.drew.freeze ⟨g, 0, none⟩ l.length) := by
    have hA : BuilderAtF 117 5 B b p (byteCells l) w.drew := ⟨hB, _, hbk, by rw [byteCells_length]; exact hown, hne⟩
    have hF := hA.froze (g := g) (cap := cap) (by rw [byteCells_length]; exact c1)
    rw [byteCells_length] at hF
    rcases hp with rfl | rfl
    · exact .inl hF
    · exact .inr hF
  have hbm : BM B w (w.drew.freeze ⟨g, 0, none⟩ l.length) := by
    have hz : Mod [g] w.drew (w.drew.freeze ⟨g, 0, none⟩ l.length) := by
      unfold World.freeze
      split
      · exact Mod.refl _ _
      · exact ⟨rfl, rfl, rfl, by simp, fun k hk hn => by
          simp only [List.mem_cons, List.not_mem_nil, or_false] at hn
          simp only [Array.getElem?_modify]
          rw [if_neg (Ne.symm hn)]⟩
    refine ⟨[g], (show Mod [g] w w.drew from (Mod.refl [g] w).drewN 1).trans hz (fun x hx => .inl hx), ?_⟩
    · intro x hx; simp only [List.mem_cons, List.not_mem_nil, or_false] at hx; subst hx; exact ⟨hbg, .inl ⟨_, _, _, hg, .inl rfl⟩⟩
  have hmix : Try.prog.follows Departure.mixedOrders = true := okT.mixed
  go_enter Try.func71, Try.ntmps71
  go_wp2
  go_region_o
  all_goals (go_wp2; go_ret; exact ⟨rfl, hkeep, hbm⟩)
end Go.Proofs.Ytoladcdelaemoaa
set_option linter.unusedSimpArgs false
set_option linter.unusedVariables false
set_option maxRecDepth 20000
namespace Go.Proofs.Ytoladcdelaemoaa
open Go Go.Wk Go.RowKit
attribute [local irreducible] go Hold
open Go.Lib
/-- At b stands a Builder that holds l; its row is younger. -/
def Bd (b : Nat) (l : List UInt8) (w : World) : Prop := IsBuilderF 117 5 b b (byteCells l) w
theorem ownF_mod {S : List Nat} {w w' : World} {base e size n : Nat} {v : Value} {xs : List Value} (h : w.ownsRowF base e size v n xs) (hm : Mod S w w') (hn : ∀ x ∈ S, x < base) : w'.ownsRowF base e size v n xs := by
  refine ⟨h.1, ?_⟩
  rcases h.2 with h1 | ⟨g, cap, cur, fz, rfl, hb, hg, rest⟩
  · exact .inl h1
  · exact .inr ⟨g, cap, cur, fz, rfl, hb, hm.get hg (fun hx => by have := hn g hx; omega), rest⟩
theorem Bd.mod {S : List Nat} {b : Nat} {l : List UInt8} {w w' : World} (h : Bd b l w) (hm : Mod S w w') (hn : ∀ x ∈ S, x < b) : Bd b l w' := by
  have key : ∀ p, BuilderAtF 117 5 b b p (byteCells l) w → BuilderAtF 117 5 b b p (byteCells l) w' := by
    rintro p ⟨hB, v, hb, hown, hne⟩
    exact ⟨hB, v, hm.get hb (fun hx => by have := hn b hx; omega), ownF_mod hown hm hn, hne⟩
  rcases h with h | h
  · exact .inl (key _ h)
  · exact .inr (key _ h)
theorem Bd.new {w : World} : Bd w.heap.size [] (w.alloc (.cells #[.pointer none, .slice none 0 0] 117)) :=
  .inl ⟨Nat.le_refl _, _, heapNew, World.ownsRowF_nil _ _ _ _, by simp [Value.ownBlock]⟩
theorem Mod.under {S : List Nat} {B : Nat} {w0 w w' : World} (h : Mod S w0 w) (hb : Below B w w') (hB : w0.heap.size ≤ B) : Mod S w0 w' :=
  ⟨hb.os.trans h.os, hb.tape.trans h.tape, hb.output.trans h.output, Nat.le_trans h.size hb.size, fun k hk hn => (hb.block k (by omega)).trans (h.block k hk hn)⟩
theorem Bd.lt {b : Nat} {l : List UInt8} {w : World} (h : Bd b l w) : b < w.heap.size := by
  rcases h with h | h <;> exact h.lt
theorem bdWrite_cps (b : Nat) (cur s : List UInt8) (w : World) (h : Bd b cur w) (hlen : cur.length + s.length ≤ 140737488355328) (R : Ending → World → Prop)
    (hR : ∀ w', Bd b (cur ++ s) w' → BM b w w' → R (.returned (.tuple #[.int .i64 s.length, .nilIface])) w') :
    Calls Try.prog 69 #[.pointer (some ⟨b, 0, none⟩), .string ⟨s.toArray⟩] w R := by
  refine bWrite_cps b b (byteCells cur) s w h (by rw [byteCells_length]; exact hlen) (Nat.le_of_lt h.lt) R fun w' h' hb => hR w' (.inr ?_) hb
  rw [byteCells_append]; exact h'
theorem bdLen_cps (b : Nat) (cur : List UInt8) (w : World) (h : Bd b cur w) (hl : cur.length ≤ 140737488355328) (R : Ending → World → Prop) (hR : R (.returned (.int .i64 cur.length)) w) :
    Calls Try.prog 70 #[.pointer (some ⟨b, 0, none⟩)] w R :=
  bLen_cps b b (byteCells cur) w h (by rw [byteCells_length]; exact hl) R (by rw [byteCells_length]; exact hR)
theorem bdString_cps (b : Nat) (cur : List UInt8) (w : World) (h : Bd b cur w) (h0 : cur ≠ []) (R : Ending → World → Prop) (hR : ∀ w', Bd b cur w' → BM b w w' → R (.returned (.string ⟨cur.toArray⟩)) w') :
    Calls Try.prog 71 #[.pointer (some ⟨b, 0, none⟩)] w R := by
  refine (bString b b cur w h h0).mono ?_
  rintro e w' ⟨rfl, h1, h2⟩
  exact hR w' h1 h2
end Go.Proofs.Ytoladcdelaemoaa
set_option linter.unusedSimpArgs false
set_option linter.unusedVariables false
set_option maxRecDepth 20000
namespace Go.Proofs.Ytoladcdelaemoaa
open Go Go.Wk Go.RowKit
attribute [local irreducible] go Hold
open Go.Lib
/-- The parts, behind what stands there, as long as it is not too long. -/
def joinS : List UInt8 → List (List UInt8) → List UInt8
  | s, [] => s
  | s, x :: l => if s.length ≤ 16384 then joinS (s ++ x) l else s
def madeS (front : List UInt8) (l : List (List UInt8)) : List UInt8 × Int :=
  if allS l = true then (if checkS (joinS front l) = 0 then (joinS front l, 0) else ([], 5)) else ([], 2)
set_option maxRecDepth 20000 in
set_option maxHeartbeats 4000000 in
theorem tMade_cps (front : List UInt8) (hf0 : front ≠ []) (hf : front.length ≤ 100) (sa : Value) (xs : List (List UInt8)) (w : World) (R : Ending → World → Prop) (hx : xs.length ≤ 9223372036854775807) (hxs : ∀ s ∈ xs, s.length ≤ 1000000) (ha : Rd w 1 sa xs.length (xs.map strV))
    (hR : ∀ w', Mod [] w w' → R (.returned (stV (madeS front xs))) w') : Calls Try.prog 52 #[.string ⟨front.toArray⟩, sa] w R := by
  have hxs' : ∀ s ∈ xs, s.length ≤ maxLen := fun s h => by have := hxs s h; unfold maxLen; omega
  obtain ⟨a, ca, rfl⟩ := ha.slice
  unfold madeS at hR
  refine calls_go 4000 okT Try.func52 rfl (rs := [.tmp 4, .tmp 5]) rfl Try.ntmps52 (args := [.string ⟨front.toArray⟩, .slice a xs.length ca]) ?_
  simp (maxSteps := 1000000) (disch := first | omega | (simp only [sizeAlloc, sizeDrew, sizeSet, sizePut] <;> omega) | fail) only [GS, TT_eq, TTl, Nat.reduceAdd, Nat.reduceMul, Nat.reduceSub, Nat.reduceDiv, Nat.reduceMod, Nat.reducePow, Nat.reduceEqDiff, ↓reduceIte, reduceCtorEq, Int.reduceToNat, Int.reduceAdd, Int.reduceSub, Int.reduceMul]
  refine ⟨fok47, tIs_cps _ xs _ _ hx hxs' ha fun w1 hM1 => .inl ⟨_, rfl, hold_ops okT (rs := [.tmp 4, .tmp 5]) rfl ?_⟩⟩
  generalize allS xs = b at hR ⊢
  cases b
  · rw [if_neg (by simp)] at hR
    simp (maxSteps := 1000000) (disch := first | omega | (simp only [sizeAlloc, sizeDrew, sizeSet, sizePut] <;> omega) | fail) only [GS, TT_eq, TTl, Nat.reduceAdd, Nat.reduceMul, Nat.reduceSub, Nat.reduceDiv, Nat.reduceMod, Nat.reducePow, Nat.reduceEqDiff, ↓reduceIte, reduceCtorEq, Int.reduceToNat, Int.reduceAdd, Int.reduceSub, Int.reduceMul]
    exact hR _ hM1
  · rw [if_pos rfl] at hR
    simp (maxSteps := 1000000) (disch := first | omega | (simp only [sizeAlloc, sizeDrew, sizeSet, sizePut] <;> omega) | fail) only [GS, TT_eq, TTl, Nat.reduceAdd, Nat.reduceMul, Nat.reduceSub, Nat.reduceDiv, Nat.reduceMod, Nat.reducePow, Nat.reduceEqDiff, ↓reduceIte, reduceCtorEq, Int.reduceToNat, Int.reduceAdd, Int.reduceSub, Int.reduceMul]
    have hb0 := Bd.new (w := w1)
    generalize hB : w1.heap.size = B at hb0 ⊢
    have hwB : w.heap.size ≤ B := by have := hM1.size; omega
    have hM2 := hM1.alloc (.cells #[.pointer none, .slice none 0 0] 117)
    generalize w1.alloc (.cells #[.pointer none, .slice none 0 0] 117) = w2 at hb0 hM2 ⊢
    refine ⟨fok69, bdWrite_cps B [] front _ hb0 (by simp; omega) _ fun w3 hb3 hl3 => .inl ⟨_, rfl, hold_ops okT (rs := [.tmp 4, .tmp 5]) rfl ?_⟩⟩
    rw [List.nil_append] at hb3
    have hM3 := Mod.under hM2 (hl3.below (Nat.le_of_lt hb0.lt)) hwB
    simp (maxSteps := 1000000) (disch := first | omega | (simp only [sizeAlloc, sizeDrew, sizeSet, sizePut] <;> omega) | fail) only [GS, TT_eq, TTl, Nat.reduceAdd, Nat.reduceMul, Nat.reduceSub, Nat.reduceDiv, Nat.reduceMod, Nat.reducePow, Nat.reduceEqDiff, ↓reduceIte, reduceCtorEq, Int.reduceToNat, Int.reduceAdd, Int.reduceSub, Int.reduceMul]
    refine hold_loop okT (rs := [.tmp 4, .tmp 5]) rfl [16] [8, 17, 18, 19, 20, 21, 22, 23, 24] (fun vs w' => ∃ (k : Nat) (cur : List UInt8), k ≤ xs.length ∧ vs = [.int .i64 k] ∧ cur ≠ [] ∧ cur.length ≤ 1020000 ∧ Bd B cur w' ∧ Mod [] w w' ∧ joinS front xs = joinS cur (xs.drop k)) (fun vs _ => match vs with | [.int _ i] => xs.length - i.toNat | _ => 0) (by kernel_rfl) ⟨0, front, by omega, rfl, hf0, by omega, hb3, hM3, rfl⟩ ?_
    rintro vs w4 J ⟨k, cur, hk, rfl, hne, hcl, hb, hM, hj⟩
    by_cases hlt : k < xs.length
    · obtain ⟨b1, o1, c1, e1, _, g1⟩ := (ha.mod hM (by simp)).at (by omega) (by omega)
      have f1 := g1 k _ (getS hlt)
      rw [Value.slice.injEq] at e1
      obtain ⟨rfl, -, -⟩ := e1
      have hms := hxs _ (List.getElem_mem hlt)
      simp (maxSteps := 1000000) (disch := first | omega | (simp only [sizeAlloc, sizeDrew, sizeSet, sizePut] <;> omega) | fail) only [GS, TT_eq, TTl, Nat.reduceAdd, Nat.reduceMul, Nat.reduceSub, Nat.reduceDiv, Nat.reduceMod, Nat.reducePow, Nat.reduceEqDiff, ↓reduceIte, reduceCtorEq, Int.reduceToNat, Int.reduceAdd, Int.reduceSub, Int.reduceMul, f1]
      refine ⟨fok70, bdLen_cps B cur _ hb (by omega) _ (.inl ⟨_, rfl, hold_ops okT (rs := [.tmp 4, .tmp 5]) rfl ?_⟩)⟩
      rw [List.drop_eq_getElem_cons hlt, joinS] at hj
      by_cases hlong : 16384 < cur.length
      · have hend : joinS front xs = cur := by rw [hj, if_neg (by omega)]
        have e0 : joinS front xs = cur := hend
        simp (maxSteps := 1000000) (disch := first | omega | (simp only [sizeAlloc, sizeDrew, sizeSet, sizePut] <;> omega) | fail) only [GS, TT_eq, TTl, Nat.reduceAdd, Nat.reduceMul, Nat.reduceSub, Nat.reduceDiv, Nat.reduceMod, Nat.reducePow, Nat.reduceEqDiff, ↓reduceIte, reduceCtorEq, Int.reduceToNat, Int.reduceAdd, Int.reduceSub, Int.reduceMul]
        refine ⟨fok71, bdString_cps B cur _ hb hne _ fun w5 hb5 hl5 => .inl ⟨_, rfl, hold_ops okT (rs := [.tmp 4, .tmp 5]) rfl ?_⟩⟩
        have hM5 := Mod.under hM (hl5.below (Nat.le_of_lt hb.lt)) hwB
        simp (maxSteps := 1000000) (disch := first | omega | (simp only [sizeAlloc, sizeDrew, sizeSet, sizePut] <;> omega) | fail) only [GS, TT_eq, TTl, Nat.reduceAdd, Nat.reduceMul, Nat.reduceSub, Nat.reduceDiv, Nat.reduceMod, Nat.reducePow, Nat.reduceEqDiff, ↓reduceIte, reduceCtorEq, Int.reduceToNat, Int.reduceAdd, Int.reduceSub, Int.reduceMul]
        refine ⟨fok25, tCheck_cps cur (by unfold maxLen; omega) _ _ fun w6 hM6 => .inl ⟨_, rfl, hold_ops okT (rs := [.tmp 4, .tmp 5]) rfl ?_⟩⟩
        rw [e0] at hR
        have hb6 := hb5.mod hM6 (by simp)
        have hM7 := hM5.trans hM6 (by simp)
        generalize checkS cur = e at hR ⊢
        by_cases he : e = 0
        · subst he
          rw [if_pos rfl] at hR
          simp (maxSteps := 1000000) (disch := first | omega | (simp only [sizeAlloc, sizeDrew, sizeSet, sizePut] <;> omega) | fail) only [GS, TT_eq, TTl, Nat.reduceAdd, Nat.reduceMul, Nat.reduceSub, Nat.reduceDiv, Nat.reduceMod, Nat.reducePow, Nat.reduceEqDiff, ↓reduceIte, reduceCtorEq, Int.reduceToNat, Int.reduceAdd, Int.reduceSub, Int.reduceMul]
          refine ⟨fok71, bdString_cps B cur _ hb6 hne _ fun w8 hb8 hl8 => .inl ⟨_, rfl, hold_ops okT (rs := [.tmp 4, .tmp 5]) rfl ?_⟩⟩
          simp (maxSteps := 1000000) (disch := first | omega | (simp only [sizeAlloc, sizeDrew, sizeSet, sizePut] <;> omega) | fail) only [GS, TT_eq, TTl, Nat.reduceAdd, Nat.reduceMul, Nat.reduceSub, Nat.reduceDiv, Nat.reduceMod, Nat.reducePow, Nat.reduceEqDiff, ↓reduceIte, reduceCtorEq, Int.reduceToNat, Int.reduceAdd, Int.reduceSub, Int.reduceMul]
          exact hR _ (Mod.under hM7 (hl8.below (Nat.le_of_lt hb6.lt)) hwB)
        · rw [if_neg he] at hR
          simp (maxSteps := 1000000) (disch := first | omega | (simp only [sizeAlloc, sizeDrew, sizeSet, sizePut] <;> omega) | fail) only [GS, TT_eq, TTl, Nat.reduceAdd, Nat.reduceMul, Nat.reduceSub, Nat.reduceDiv, Nat.reduceMod, Nat.reducePow, Nat.reduceEqDiff, ↓reduceIte, reduceCtorEq, Int.reduceToNat, Int.reduceAdd, Int.reduceSub, Int.reduceMul]
          exact hR _ hM7
      · rw [if_pos (by omega)] at hj
        simp (maxSteps := 1000000) (disch := first | omega | (simp only [sizeAlloc, sizeDrew, sizeSet, sizePut] <;> omega) | fail) only [GS, TT_eq, TTl, Nat.reduceAdd, Nat.reduceMul, Nat.reduceSub, Nat.reduceDiv, Nat.reduceMod, Nat.reducePow, Nat.reduceEqDiff, ↓reduceIte, reduceCtorEq, Int.reduceToNat, Int.reduceAdd, Int.reduceSub, Int.reduceMul, f1]
        refine ⟨fok69, bdWrite_cps B cur xs[k] _ hb (by omega) _ fun w5 hb5 hl5 => .inl ⟨_, rfl, hold_ops okT (rs := [.tmp 4, .tmp 5]) rfl ?_⟩⟩
        simp (maxSteps := 1000000) (disch := first | omega | (simp only [sizeAlloc, sizeDrew, sizeSet, sizePut] <;> omega) | fail) only [GS, TT_eq, TTl, Nat.reduceAdd, Nat.reduceMul, Nat.reduceSub, Nat.reduceDiv, Nat.reduceMod, Nat.reducePow, Nat.reduceEqDiff, ↓reduceIte, reduceCtorEq, Int.reduceToNat, Int.reduceAdd, Int.reduceSub, Int.reduceMul]
        exact ⟨⟨k + 1, cur ++ xs[k], by omega, rfl, by simp [hne], by rw [List.length_append]; omega, hb5, Mod.under hM (hl5.below (Nat.le_of_lt hb.lt)) hwB, hj⟩, by omega⟩
    · have hend : joinS front xs = cur := by rw [hj, List.drop_eq_nil_of_le (by omega)]; rfl
      have e0 : joinS front xs = cur := hend
      simp (maxSteps := 1000000) (disch := first | omega | (simp only [sizeAlloc, sizeDrew, sizeSet, sizePut] <;> omega) | fail) only [GS, TT_eq, TTl, Nat.reduceAdd, Nat.reduceMul, Nat.reduceSub, Nat.reduceDiv, Nat.reduceMod, Nat.reducePow, Nat.reduceEqDiff, ↓reduceIte, reduceCtorEq, Int.reduceToNat, Int.reduceAdd, Int.reduceSub, Int.reduceMul]
      refine ⟨fok71, bdString_cps B cur _ hb hne _ fun w5 hb5 hl5 => .inl ⟨_, rfl, hold_ops okT (rs := [.tmp 4, .tmp 5]) rfl ?_⟩⟩
      have hM5 := Mod.under hM (hl5.below (Nat.le_of_lt hb.lt)) hwB
      simp (maxSteps := 1000000) (disch := first | omega | (simp only [sizeAlloc, sizeDrew, sizeSet, sizePut] <;> omega) | fail) only [GS, TT_eq, TTl, Nat.reduceAdd, Nat.reduceMul, Nat.reduceSub, Nat.reduceDiv, Nat.reduceMod, Nat.reducePow, Nat.reduceEqDiff, ↓reduceIte, reduceCtorEq, Int.reduceToNat, Int.reduceAdd, Int.reduceSub, Int.reduceMul]
      refine ⟨fok25, tCheck_cps cur (by unfold maxLen; omega) _ _ fun w6 hM6 => .inl ⟨_, rfl, hold_ops okT (rs := [.tmp 4, .tmp 5]) rfl ?_⟩⟩
      rw [e0] at hR
      have hb6 := hb5.mod hM6 (by simp)
      have hM7 := hM5.trans hM6 (by simp)
      generalize checkS cur = e at hR ⊢
      by_cases he : e = 0
      · subst he
        rw [if_pos rfl] at hR
        simp (maxSteps := 1000000) (disch := first | omega | (simp only [sizeAlloc, sizeDrew, sizeSet, sizePut] <;> omega) | fail) only [GS, TT_eq, TTl, Nat.reduceAdd, Nat.reduceMul, Nat.reduceSub, Nat.reduceDiv, Nat.reduceMod, Nat.reducePow, Nat.reduceEqDiff, ↓reduceIte, reduceCtorEq, Int.reduceToNat, Int.reduceAdd, Int.reduceSub, Int.reduceMul]
        refine ⟨fok71, bdString_cps B cur _ hb6 hne _ fun w8 hb8 hl8 => .inl ⟨_, rfl, hold_ops okT (rs := [.tmp 4, .tmp 5]) rfl ?_⟩⟩
        simp (maxSteps := 1000000) (disch := first | omega | (simp only [sizeAlloc, sizeDrew, sizeSet, sizePut] <;> omega) | fail) only [GS, TT_eq, TTl, Nat.reduceAdd, Nat.reduceMul, Nat.reduceSub, Nat.reduceDiv, Nat.reduceMod, Nat.reducePow, Nat.reduceEqDiff, ↓reduceIte, reduceCtorEq, Int.reduceToNat, Int.reduceAdd, Int.reduceSub, Int.reduceMul]
        exact hR _ (Mod.under hM7 (hl8.below (Nat.le_of_lt hb6.lt)) hwB)
      · rw [if_neg he] at hR
        simp (maxSteps := 1000000) (disch := first | omega | (simp only [sizeAlloc, sizeDrew, sizeSet, sizePut] <;> omega) | fail) only [GS, TT_eq, TTl, Nat.reduceAdd, Nat.reduceMul, Nat.reduceSub, Nat.reduceDiv, Nat.reduceMod, Nat.reducePow, Nat.reduceEqDiff, ↓reduceIte, reduceCtorEq, Int.reduceToNat, Int.reduceAdd, Int.reduceSub, Int.reduceMul]
        exact hR _ hM7
end Go.Proofs.Ytoladcdelaemoaa
set_option linter.unusedSimpArgs false
set_option linter.unusedVariables false
set_option maxRecDepth 20000
namespace Go.Proofs.Ytoladcdelaemoaa
open Go Go.Wk Go.RowKit
attribute [local irreducible] go Hold
open Go.Lib
set_option maxHeartbeats 2000000 in
theorem tHash_cps (x : List UInt8) (hx : x.length ≤ 1000000) (w : World) (R : Ending → World → Prop) (hR : ∀ w', Mod [] w w' → R (.returned (stV (madeS [104] [x]))) w') : Calls Try.prog 100 #[.string ⟨x.toArray⟩] w R := by
  refine calls_go 4000 okT Try.func100 rfl (rs := [.tmp 2, .tmp 3]) rfl Try.ntmps100 (args := [.string ⟨x.toArray⟩]) ?_
  simp (maxSteps := 1000000) (disch := first | omega | (simp only [sizeAlloc, sizeDrew, sizeSet, sizePut] <;> omega) | fail) only [GS, TT_eq, TTl, Nat.reduceAdd, Nat.reduceMul, Nat.reduceSub, Nat.reduceDiv, Nat.reduceMod, Nat.reducePow, Nat.reduceEqDiff, ↓reduceIte, reduceCtorEq, Int.reduceToNat, Int.reduceAdd, Int.reduceSub, Int.reduceMul]
  have hrd : Rd (w.alloc (.cells #[.string ⟨x.toArray⟩] 9)) 1 (.slice (some ⟨w.heap.size, 0, none⟩) 1 1) 1 ([x].map strV) := Rd.lit (n := 1) (xs := [.string ⟨x.toArray⟩]) rfl
  refine ⟨fok52, tMade_cps [104] (by simp) (by simp) _ [x] _ _ (by simp) (by intro s hs; simp only [List.mem_cons, List.not_mem_nil, or_false] at hs; rcases hs with rfl <;> assumption) hrd fun w2 hM2 => .inl ⟨_, rfl, hold_ops okT (rs := [.tmp 2, .tmp 3]) rfl ?_⟩⟩
  unfold stV
  simp (maxSteps := 1000000) (disch := first | omega | (simp only [sizeAlloc, sizeDrew, sizeSet, sizePut] <;> omega) | fail) only [GS, TT_eq, TTl, Nat.reduceAdd, Nat.reduceMul, Nat.reduceSub, Nat.reduceDiv, Nat.reduceMod, Nat.reducePow, Nat.reduceEqDiff, ↓reduceIte, reduceCtorEq, Int.reduceToNat, Int.reduceAdd, Int.reduceSub, Int.reduceMul]
  exact hR _ (((Mod.refl _ _).alloc _).trans hM2 (by simp))
set_option maxHeartbeats 2000000 in
theorem tMac_cps (x y : List UInt8) (hx : x.length ≤ 1000000) (hy : y.length ≤ 1000000) (w : World) (R : Ending → World → Prop) (hR : ∀ w', Mod [] w w' → R (.returned (stV (madeS [109] [x, y]))) w') : Calls Try.prog 101 #[.string ⟨x.toArray⟩, .string ⟨y.toArray⟩] w R := by
  refine calls_go 4000 okT Try.func101 rfl (rs := [.tmp 4, .tmp 5]) rfl Try.ntmps101 (args := [.string ⟨x.toArray⟩, .string ⟨y.toArray⟩]) ?_
  simp (maxSteps := 1000000) (disch := first | omega | (simp only [sizeAlloc, sizeDrew, sizeSet, sizePut] <;> omega) | fail) only [GS, TT_eq, TTl, Nat.reduceAdd, Nat.reduceMul, Nat.reduceSub, Nat.reduceDiv, Nat.reduceMod, Nat.reducePow, Nat.reduceEqDiff, ↓reduceIte, reduceCtorEq, Int.reduceToNat, Int.reduceAdd, Int.reduceSub, Int.reduceMul]
  have hrd : Rd (w.alloc (.cells #[.string ⟨x.toArray⟩, .string ⟨y.toArray⟩] 9)) 1 (.slice (some ⟨w.heap.size, 0, none⟩) 2 2) 2 ([x, y].map strV) := Rd.lit (n := 2) (xs := [.string ⟨x.toArray⟩, .string ⟨y.toArray⟩]) rfl
  refine ⟨fok52, tMade_cps [109] (by simp) (by simp) _ [x, y] _ _ (by simp) (by intro s hs; simp only [List.mem_cons, List.not_mem_nil, or_false] at hs; rcases hs with rfl | rfl <;> assumption) hrd fun w2 hM2 => .inl ⟨_, rfl, hold_ops okT (rs := [.tmp 4, .tmp 5]) rfl ?_⟩⟩
  unfold stV
  simp (maxSteps := 1000000) (disch := first | omega | (simp only [sizeAlloc, sizeDrew, sizeSet, sizePut] <;> omega) | fail) only [GS, TT_eq, TTl, Nat.reduceAdd, Nat.reduceMul, Nat.reduceSub, Nat.reduceDiv, Nat.reduceMod, Nat.reducePow, Nat.reduceEqDiff, ↓reduceIte, reduceCtorEq, Int.reduceToNat, Int.reduceAdd, Int.reduceSub, Int.reduceMul]
  exact hR _ (((Mod.refl _ _).alloc _).trans hM2 (by simp))
set_option maxHeartbeats 2000000 in
theorem tSeal_cps (x y z : List UInt8) (hx : x.length ≤ 1000000) (hy : y.length ≤ 1000000) (hz : z.length ≤ 1000000) (w : World) (R : Ending → World → Prop) (hR : ∀ w', Mod [] w w' → R (.returned (stV (madeS [115] [x, y, z]))) w') : Calls Try.prog 31 #[.string ⟨x.toArray⟩, .string ⟨y.toArray⟩, .string ⟨z.toArray⟩] w R := by
  refine calls_go 4000 okT Try.func31 rfl (rs := [.tmp 6, .tmp 7]) rfl Try.ntmps31 (args := [.string ⟨x.toArray⟩, .string ⟨y.toArray⟩, .string ⟨z.toArray⟩]) ?_
  simp (maxSteps := 1000000) (disch := first | omega | (simp only [sizeAlloc, sizeDrew, sizeSet, sizePut] <;> omega) | fail) only [GS, TT_eq, TTl, Nat.reduceAdd, Nat.reduceMul, Nat.reduceSub, Nat.reduceDiv, Nat.reduceMod, Nat.reducePow, Nat.reduceEqDiff, ↓reduceIte, reduceCtorEq, Int.reduceToNat, Int.reduceAdd, Int.reduceSub, Int.reduceMul]
  have hrd : Rd (w.alloc (.cells #[.string ⟨x.toArray⟩, .string ⟨y.toArray⟩, .string ⟨z.toArray⟩] 9)) 1 (.slice (some ⟨w.heap.size, 0, none⟩) 3 3) 3 ([x, y, z].map strV) := Rd.lit (n := 3) (xs := [.string ⟨x.toArray⟩, .string ⟨y.toArray⟩, .string ⟨z.toArray⟩]) rfl
  refine ⟨fok52, tMade_cps [115] (by simp) (by simp) _ [x, y, z] _ _ (by simp) (by intro s hs; simp only [List.mem_cons, List.not_mem_nil, or_false] at hs; rcases hs with rfl | rfl | rfl <;> assumption) hrd fun w2 hM2 => .inl ⟨_, rfl, hold_ops okT (rs := [.tmp 6, .tmp 7]) rfl ?_⟩⟩
  unfold stV
  simp (maxSteps := 1000000) (disch := first | omega | (simp only [sizeAlloc, sizeDrew, sizeSet, sizePut] <;> omega) | fail) only [GS, TT_eq, TTl, Nat.reduceAdd, Nat.reduceMul, Nat.reduceSub, Nat.reduceDiv, Nat.reduceMod, Nat.reducePow, Nat.reduceEqDiff, ↓reduceIte, reduceCtorEq, Int.reduceToNat, Int.reduceAdd, Int.reduceSub, Int.reduceMul]
  exact hR _ (((Mod.refl _ _).alloc _).trans hM2 (by simp))
end Go.Proofs.Ytoladcdelaemoaa
