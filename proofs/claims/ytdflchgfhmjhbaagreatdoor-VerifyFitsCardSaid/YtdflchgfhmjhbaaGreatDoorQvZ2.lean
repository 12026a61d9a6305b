/-
  term.Check. What is made of texts: data, atoms, numbers; the reference's rows (walks). strings.Builder (walks; after the shelf's own). strings.Builder: WriteString, Len (walks). strings.Builder: String (walk; after the shelf's own). strings.Builder: what holds a text; its calls, as contracts. What letters and parts make (walks). The reference's made; rows, hashes, macs, seals (walks). term.Kind, Text, Parts (walks). term.Parts (walk). Terms as trees: what stands side by side, each with its parts (plain). What a term is made of, and what is made of terms (plain).
-/
import Derived.Test.YtdflchgfhmjhbaaGreatDoorQvB3
import Derived.Shelf.Strings.BuilderX
import Derived.Lib.Builder
import Derived.Lib.AppendStr
import Derived.Lib.FrozenHead
import Derived.Lib.Walk
import Derived.Shelf.RegionOpenPlain
import Derived.Lib.UnsafeStr
set_option linter.unusedSimpArgs false
set_option linter.unusedVariables false
namespace Go.Proofs.YtdflchgfhmjhbaaGreatDoor
set_option maxHeartbeats 4000000
set_option maxRecDepth 100000
open Go Go.Wk Go.RowKit
attribute [local irreducible] go Hold
theorem tCheck_cps (S : List UInt8) (hS : S.length ≤ maxLen) (w : World) (R : Ending → World → Prop) (hR : ∀ w', Mod [] w w' → R (.returned (.int .i64 (checkS S))) w') :
    Calls Tryz.prog 72 #[.string ⟨S.toArray⟩] w R := by
  have hS' := hS
  unfold maxLen at hS
  have hl := readS_len S
  unfold checkS at hR
  refine calls_go 4000 okT Tryz.func72 rfl (rs := [.tmp 2]) rfl Tryz.ntmps72 (args := [.string ⟨S.toArray⟩]) ?_
  simp (maxSteps := 1000000) (disch := first | omega | (simp only [sizeAlloc, sizeDrew, sizeSet, sizePut] <;> omega) | fail) only [GS, TT_eq, TTl, Nat.reduceAdd, Nat.reduceMul, Nat.reduceSub, Nat.reduceDiv, Nat.reduceMod, Nat.reducePow, Nat.reduceEqDiff, ↓reduceIte, reduceCtorEq, Int.reduceToNat, Int.reduceAdd, Int.reduceSub, Int.reduceMul]
  refine ⟨fok107, tRead_cps S hS' _ _ fun w1 hM => .inl ⟨_, rfl, hold_ops okT (rs := [.tmp 2]) rfl ?_⟩⟩
  have hR := hR w1 hM
  generalize readS S = X at hR hl ⊢
  obtain ⟨m, e⟩ := X
  unfold rd2V
  simp only at hR hl ⊢
  by_cases he : e = 0
  · subst he
    simp only [if_true] at hR
    by_cases h : m = S.length
    · rw [if_pos h] at hR
      simp (maxSteps := 1000000) (disch := first | omega | (simp only [sizeAlloc, sizeDrew, sizeSet, sizePut] <;> omega) | fail) only [GS, TT_eq, TTl, Nat.reduceAdd, Nat.reduceMul, Nat.reduceSub, Nat.reduceDiv, Nat.reduceMod, Nat.reducePow, Nat.reduceEqDiff, ↓reduceIte, reduceCtorEq, Int.reduceToNat, Int.reduceAdd, Int.reduceSub, Int.reduceMul]
      exact hR
    · rw [if_neg h] at hR
      simp (maxSteps := 1000000) (disch := first | omega | (simp only [sizeAlloc, sizeDrew, sizeSet, sizePut] <;> omega) | fail) only [GS, TT_eq, TTl, Nat.reduceAdd, Nat.reduceMul, Nat.reduceSub, Nat.reduceDiv, Nat.reduceMod, Nat.reducePow, Nat.reduceEqDiff, ↓reduceIte, reduceCtorEq, Int.reduceToNat, Int.reduceAdd, Int.reduceSub, Int.reduceMul]
      exact hR
  · rw [if_neg he] at hR
    simp (maxSteps := 1000000) (disch := first | omega | (simp only [sizeAlloc, sizeDrew, sizeSet, sizePut] <;> omega) | fail) only [GS, TT_eq, TTl, Nat.reduceAdd, Nat.reduceMul, Nat.reduceSub, Nat.reduceDiv, Nat.reduceMod, Nat.reducePow, Nat.reduceEqDiff, ↓reduceIte, reduceCtorEq, Int.reduceToNat, Int.reduceAdd, Int.reduceSub, Int.reduceMul]
    exact hR
def strV (l : List UInt8) : Value := .string ⟨l.toArray⟩
theorem getS {xs : List (List UInt8)} {k : Nat} (h : k < xs.length) : (xs.map strV)[k]? = some (.string ⟨xs[k].toArray⟩) := by
  rw [List.getElem?_map, List.getElem?_eq_getElem h]; rfl
def allS (xs : List (List UInt8)) : Bool := xs.all fun s => decide (checkS s = 0)
theorem tIs_cps (sa : Value) (xs : List (List UInt8)) (w : World) (R : Ending → World → Prop) (hx : xs.length ≤ 9223372036854775807) (hxs : ∀ s ∈ xs, s.length ≤ maxLen) (ha : Rd w 1 sa xs.length (xs.map strV))
    (hR : ∀ w', Mod [] w w' → R (.returned (.bool (allS xs))) w') : Calls Tryz.prog 68 #[sa] w R := by
  obtain ⟨a, ca, rfl⟩ := ha.slice
  refine calls_go 4000 okT Tryz.func68 rfl (rs := [.tmp 2]) rfl Tryz.ntmps68 (args := [.slice a xs.length ca]) ?_
  simp (maxSteps := 1000000) (disch := first | omega | (simp only [sizeAlloc, sizeDrew, sizeSet, sizePut] <;> omega) | fail) only [GS, TT_eq, TTl, Nat.reduceAdd, Nat.reduceMul, Nat.reduceSub, Nat.reduceDiv, Nat.reduceMod, Nat.reducePow, Nat.reduceEqDiff, ↓reduceIte, reduceCtorEq, Int.reduceToNat, Int.reduceAdd, Int.reduceSub, Int.reduceMul]
  refine hold_loop okT (rs := [.tmp 2]) rfl [7] [2, 4, 8, 9, 10, 11, 12, 13, 14] (fun vs w' => ∃ k : Nat, k ≤ xs.length ∧ vs = [.int .i64 k] ∧ Mod [] w w' ∧ allS (xs.take k) = true) (fun vs _ => match vs with | [.int _ i] => xs.length - i.toNat | _ => 0) (by kernel_rfl) ⟨0, by omega, rfl, Mod.refl _ _, rfl⟩ ?_
  rintro vs w' J ⟨k, hk, rfl, hM, hn⟩
  have hb := ha.mod hM (by simp)
  by_cases hlt : k < xs.length
  · obtain ⟨b1, o1, c1, e1, _, g1⟩ := hb.at (by omega) (by omega)
    have f1 := g1 k _ (getS hlt)
    rw [Value.slice.injEq] at e1
    obtain ⟨rfl, -, -⟩ := e1
    have hms := List.getElem_mem hlt
    have hall : allS (xs.take (k + 1)) = decide (checkS xs[k] = 0) := by
      unfold allS at hn ⊢
      rw [List.take_succ_eq_append_getElem hlt, List.all_append, hn]; simp
    have hno : checkS xs[k] ≠ 0 → allS xs = false := fun h => by
      unfold allS
      rw [List.all_eq_false]; exact ⟨_, hms, by simp [h]⟩
    simp (maxSteps := 1000000) (disch := first | omega | (simp only [sizeAlloc, sizeDrew, sizeSet, sizePut] <;> omega) | fail) only [GS, TT_eq, TTl, Nat.reduceAdd, Nat.reduceMul, Nat.reduceSub, Nat.reduceDiv, Nat.reduceMod, Nat.reducePow, Nat.reduceEqDiff, ↓reduceIte, reduceCtorEq, Int.reduceToNat, Int.reduceAdd, Int.reduceSub, Int.reduceMul, f1]
    refine ⟨fok72, tCheck_cps xs[k] (hxs _ hms) _ _ fun w1 hM1 => .inl ⟨_, rfl, hold_ops okT (rs := [.tmp 2]) rfl ?_⟩⟩
    generalize checkS xs[k] = e at hall hno ⊢
    have hM2 := hM.trans hM1 (by simp)
    by_cases he : e = 0
    · subst he
      simp (maxSteps := 1000000) (disch := first | omega | (simp only [sizeAlloc, sizeDrew, sizeSet, sizePut] <;> omega) | fail) only [GS, TT_eq, TTl, Nat.reduceAdd, Nat.reduceMul, Nat.reduceSub, Nat.reduceDiv, Nat.reduceMod, Nat.reducePow, Nat.reduceEqDiff, ↓reduceIte, reduceCtorEq, Int.reduceToNat, Int.reduceAdd, Int.reduceSub, Int.reduceMul]
      exact ⟨⟨k + 1, by omega, rfl, hM2, by rw [hall]; rfl⟩, by omega⟩
    · rw [hno he] at hR
      simp (maxSteps := 1000000) (disch := first | omega | (simp only [sizeAlloc, sizeDrew, sizeSet, sizePut] <;> omega) | fail) only [GS, TT_eq, TTl, Nat.reduceAdd, Nat.reduceMul, Nat.reduceSub, Nat.reduceDiv, Nat.reduceMod, Nat.reducePow, Nat.reduceEqDiff, ↓reduceIte, reduceCtorEq, Int.reduceToNat, Int.reduceAdd, Int.reduceSub, Int.reduceMul]
      exact hR _ hM2
  · have e : k = xs.length := by omega
    subst e
    rw [List.take_length] at hn
    rw [hn] at hR
    simp (maxSteps := 1000000) (disch := first | omega | (simp only [sizeAlloc, sizeDrew, sizeSet, sizePut] <;> omega) | fail) only [GS, TT_eq, TTl, Nat.reduceAdd, Nat.reduceMul, Nat.reduceSub, Nat.reduceDiv, Nat.reduceMod, Nat.reducePow, Nat.reduceEqDiff, ↓reduceIte, reduceCtorEq, Int.reduceToNat, Int.reduceAdd, Int.reduceSub, Int.reduceMul]
    exact hR _ hM
def dataS (s : List UInt8) : List UInt8 × Int := if 1024 < s.length then ([], 5) else (100 :: (numL s.length ++ s), 0)
def atomS (s : List UInt8) : List UInt8 × Int := if 32 < s.length then ([], 5) else if nameS s = true then (97 :: (numL s.length ++ s), 0) else ([], 7)
def numS (v : Int) : List UInt8 × Int := if v < 0 ∨ 2147483647 < v then ([], 2) else dataS (numL v.toNat)
def stV (x : List UInt8 × Int) : Value := .tuple #[.string ⟨x.1.toArray⟩, .int .i64 x.2]
theorem dataS_len (s : List UInt8) : (dataS s).1.length ≤ 1034 := by
  unfold dataS
  split
  · simp
  · have := numL_len (v := s.length) (by omega)
    simp; omega
theorem tData_cps (s : List UInt8) (hs : s.length ≤ maxLen) (w : World) (R : Ending → World → Prop) (hR : ∀ w', Mod [] w w' → R (.returned (stV (dataS s))) w') :
    Calls Tryz.prog 40 #[.string ⟨s.toArray⟩] w R := by
  unfold maxLen at hs
  unfold dataS at hR
  refine calls_go 4000 okT Tryz.func40 rfl (rs := [.tmp 2, .tmp 3]) rfl Tryz.ntmps40 (args := [.string ⟨s.toArray⟩]) ?_
  by_cases h : 1024 < s.length
  · rw [if_pos h] at hR
    simp (maxSteps := 1000000) (disch := first | omega | (simp only [sizeAlloc, sizeDrew, sizeSet, sizePut] <;> omega) | fail) only [GS, TT_eq, TTl, Nat.reduceAdd, Nat.reduceMul, Nat.reduceSub, Nat.reduceDiv, Nat.reduceMod, Nat.reducePow, Nat.reduceEqDiff, ↓reduceIte, reduceCtorEq, Int.reduceToNat, Int.reduceAdd, Int.reduceSub, Int.reduceMul]
    exact hR _ (Mod.refl _ _)
  · rw [if_neg h] at hR
    have hl := numL_len (v := s.length) (by omega)
    simp (maxSteps := 1000000) (disch := first | omega | (simp only [sizeAlloc, sizeDrew, sizeSet, sizePut] <;> omega) | fail) only [GS, TT_eq, TTl, Nat.reduceAdd, Nat.reduceMul, Nat.reduceSub, Nat.reduceDiv, Nat.reduceMod, Nat.reducePow, Nat.reduceEqDiff, ↓reduceIte, reduceCtorEq, Int.reduceToNat, Int.reduceAdd, Int.reduceSub, Int.reduceMul]
    refine ⟨fok79, oText_cps s (by omega) _ _ fun w1 hM => .inl ⟨_, rfl, hold_ops okT (rs := [.tmp 2, .tmp 3]) rfl ?_⟩⟩
    simp (maxSteps := 1000000) (disch := first | omega | (simp only [sizeAlloc, sizeDrew, sizeSet, sizePut] <;> omega) | fail) only [GS, TT_eq, TTl, Nat.reduceAdd, Nat.reduceMul, Nat.reduceSub, Nat.reduceDiv, Nat.reduceMod, Nat.reducePow, Nat.reduceEqDiff, ↓reduceIte, reduceCtorEq, Int.reduceToNat, Int.reduceAdd, Int.reduceSub, Int.reduceMul, List.length_append]
    exact hR _ hM
theorem tAtom_cps (s : List UInt8) (hs : s.length ≤ maxLen) (w : World) (R : Ending → World → Prop) (hR : ∀ w', Mod [] w w' → R (.returned (stV (atomS s))) w') :
    Calls Tryz.prog 189 #[.string ⟨s.toArray⟩] w R := by
  have hs' := hs
  unfold maxLen at hs
  unfold atomS at hR
  refine calls_go 4000 okT Tryz.func189 rfl (rs := [.tmp 2, .tmp 3]) rfl Tryz.ntmps189 (args := [.string ⟨s.toArray⟩]) ?_
  by_cases h : 32 < s.length
  · rw [if_pos h] at hR
    simp (maxSteps := 1000000) (disch := first | omega | (simp only [sizeAlloc, sizeDrew, sizeSet, sizePut] <;> omega) | fail) only [GS, TT_eq, TTl, Nat.reduceAdd, Nat.reduceMul, Nat.reduceSub, Nat.reduceDiv, Nat.reduceMod, Nat.reducePow, Nat.reduceEqDiff, ↓reduceIte, reduceCtorEq, Int.reduceToNat, Int.reduceAdd, Int.reduceSub, Int.reduceMul]
    exact hR _ (Mod.refl _ _)
  · rw [if_neg h] at hR
    have hl := numL_len (v := s.length) (by omega)
    simp (maxSteps := 1000000) (disch := first | omega | (simp only [sizeAlloc, sizeDrew, sizeSet, sizePut] <;> omega) | fail) only [GS, TT_eq, TTl, Nat.reduceAdd, Nat.reduceMul, Nat.reduceSub, Nat.reduceDiv, Nat.reduceMod, Nat.reducePow, Nat.reduceEqDiff, ↓reduceIte, reduceCtorEq, Int.reduceToNat, Int.reduceAdd, Int.reduceSub, Int.reduceMul]
    refine ⟨fok162, tNamed_cps s hs' _ _ fun w1 hM => .inl ⟨_, rfl, hold_ops okT (rs := [.tmp 2, .tmp 3]) rfl ?_⟩⟩
    generalize nameS s = b at hR ⊢
    cases b
    · rw [if_neg (by simp)] at hR
      simp (maxSteps := 1000000) (disch := first | omega | (simp only [sizeAlloc, sizeDrew, sizeSet, sizePut] <;> omega) | fail) only [GS, TT_eq, TTl, Nat.reduceAdd, Nat.reduceMul, Nat.reduceSub, Nat.reduceDiv, Nat.reduceMod, Nat.reducePow, Nat.reduceEqDiff, ↓reduceIte, reduceCtorEq, Int.reduceToNat, Int.reduceAdd, Int.reduceSub, Int.reduceMul]
      exact hR _ hM
    · rw [if_pos rfl] at hR
      simp (maxSteps := 1000000) (disch := first | omega | (simp only [sizeAlloc, sizeDrew, sizeSet, sizePut] <;> omega) | fail) only [GS, TT_eq, TTl, Nat.reduceAdd, Nat.reduceMul, Nat.reduceSub, Nat.reduceDiv, Nat.reduceMod, Nat.reducePow, Nat.reduceEqDiff, ↓reduceIte, reduceCtorEq, Int.reduceToNat, Int.reduceAdd, Int.reduceSub, Int.reduceMul]
      refine ⟨fok79, oText_cps s (by omega) _ _ fun w2 hM2 => .inl ⟨_, rfl, hold_ops okT (rs := [.tmp 2, .tmp 3]) rfl ?_⟩⟩
      simp (maxSteps := 1000000) (disch := first | omega | (simp only [sizeAlloc, sizeDrew, sizeSet, sizePut] <;> omega) | fail) only [GS, TT_eq, TTl, Nat.reduceAdd, Nat.reduceMul, Nat.reduceSub, Nat.reduceDiv, Nat.reduceMod, Nat.reducePow, Nat.reduceEqDiff, ↓reduceIte, reduceCtorEq, Int.reduceToNat, Int.reduceAdd, Int.reduceSub, Int.reduceMul, List.length_append]
      exact hR _ (hM.trans hM2 (by simp))
theorem numL_lt (v : Nat) (h : v < 18446744073709551616) : (numL v).length ≤ maxLen := by
  have := numL_len h
  unfold maxLen; omega
theorem tNum_cps (v : Int) (h1 : -9223372036854775808 ≤ v) (h2 : v ≤ 9223372036854775807) (w : World) (R : Ending → World → Prop) (hR : ∀ w', Mod [] w w' → R (.returned (stV (numS v))) w') :
    Calls Tryz.prog 42 #[.int .i64 v] w R := by
  unfold numS at hR
  refine calls_go 4000 okT Tryz.func42 rfl (rs := [.tmp 2, .tmp 3]) rfl Tryz.ntmps42 (args := [.int .i64 v]) ?_
  by_cases h : v < 0
  · rw [if_pos (.inl h)] at hR
    simp (maxSteps := 1000000) (disch := first | omega | (simp only [sizeAlloc, sizeDrew, sizeSet, sizePut] <;> omega) | fail) only [GS, TT_eq, TTl, Nat.reduceAdd, Nat.reduceMul, Nat.reduceSub, Nat.reduceDiv, Nat.reduceMod, Nat.reducePow, Nat.reduceEqDiff, ↓reduceIte, reduceCtorEq, Int.reduceToNat, Int.reduceAdd, Int.reduceSub, Int.reduceMul]
    exact hR _ (Mod.refl _ _)
  · by_cases hb : 2147483647 < v
    · rw [if_pos (.inr hb)] at hR
      simp (maxSteps := 1000000) (disch := first | omega | (simp only [sizeAlloc, sizeDrew, sizeSet, sizePut] <;> omega) | fail) only [GS, TT_eq, TTl, Nat.reduceAdd, Nat.reduceMul, Nat.reduceSub, Nat.reduceDiv, Nat.reduceMod, Nat.reducePow, Nat.reduceEqDiff, ↓reduceIte, reduceCtorEq, Int.reduceToNat, Int.reduceAdd, Int.reduceSub, Int.reduceMul]
      exact hR _ (Mod.refl _ _)
    · rw [if_neg (by rintro (h | h) <;> omega)] at hR
      obtain ⟨m, rfl⟩ := Int.eq_ofNat_of_zero_le (by omega : 0 ≤ v)
      rw [Int.toNat_natCast] at hR
      simp (maxSteps := 1000000) (disch := first | omega | (simp only [sizeAlloc, sizeDrew, sizeSet, sizePut] <;> omega) | fail) only [GS, TT_eq, TTl, Nat.reduceAdd, Nat.reduceMul, Nat.reduceSub, Nat.reduceDiv, Nat.reduceMod, Nat.reducePow, Nat.reduceEqDiff, ↓reduceIte, reduceCtorEq, Int.reduceToNat, Int.reduceAdd, Int.reduceSub, Int.reduceMul]
      refine ⟨fok78, oNum_cps m (by omega) _ _ fun w1 hM => .inl ⟨_, rfl, hold_ops okT (rs := [.tmp 2, .tmp 3]) rfl ?_⟩⟩
      simp (maxSteps := 1000000) (disch := first | omega | (simp only [sizeAlloc, sizeDrew, sizeSet, sizePut] <;> omega) | fail) only [GS, TT_eq, TTl, Nat.reduceAdd, Nat.reduceMul, Nat.reduceSub, Nat.reduceDiv, Nat.reduceMod, Nat.reducePow, Nat.reduceEqDiff, ↓reduceIte, reduceCtorEq, Int.reduceToNat, Int.reduceAdd, Int.reduceSub, Int.reduceMul]
      refine ⟨fok40, tData_cps (numL m) (numL_lt _ (by omega)) _ _ fun w2 hM2 => .inl ⟨_, rfl, hold_ops okT (rs := [.tmp 2, .tmp 3]) rfl ?_⟩⟩
      unfold stV
      simp (maxSteps := 1000000) (disch := first | omega | (simp only [sizeAlloc, sizeDrew, sizeSet, sizePut] <;> omega) | fail) only [GS, TT_eq, TTl, Nat.reduceAdd, Nat.reduceMul, Nat.reduceSub, Nat.reduceDiv, Nat.reduceMod, Nat.reducePow, Nat.reduceEqDiff, ↓reduceIte, reduceCtorEq, Int.reduceToNat, Int.reduceAdd, Int.reduceSub, Int.reduceMul]
      exact hR _ (hM.trans hM2 (by simp))
theorem sizeB : (Tryz.prog.info? 202).map (·.size) = some 2 := by kernel_rfl
theorem liesB : liesAt Tryz.prog Tryz.prog.depth 202 (2 / Tryz.prog.cellsOf 202) 0 202 1 = true := by kernel_rfl
theorem bCheck_used (b : Nat) (w : World) (h0 : w.cell? ⟨b, 0, none⟩ = some (.pointer (some ⟨b, 0, none⟩))) :
    Calls Tryz.prog 151 #[.pointer (some ⟨b, 0, none⟩)] w fun e w' => e = .returned (.tuple #[]) ∧ w' = w := by
  obtain ⟨j, hj, _⟩ := Option.map_eq_some_iff.1 sizeB
  go_enter Tryz.func151, Tryz.ntmps151
  go_wp2
  rw [Lib.run_neq_ptr_same w _ Tryz.underlying200 hj]
  go_wp2
  go_end0
  exact ⟨rfl, rfl⟩
theorem bCheck_fresh (b : Nat) (w : World) (h0 : w.cell? ⟨b, 0, none⟩ = some (.pointer none)) (hsh : w.shape? b = some (202, 2)) (hfz : w.frozen? ⟨b, 0, none⟩ = false) :
    Calls Tryz.prog 151 #[.pointer (some ⟨b, 0, none⟩)] w fun e w' => e = .returned (.tuple #[]) ∧ w' = w.setCell ⟨b, 0, none⟩ (.pointer (some ⟨b, 0, none⟩)) := by
  obtain ⟨j, hj, hjs⟩ := Option.map_eq_some_iff.1 sizeB
  go_enter Tryz.func151, Tryz.ntmps151
  go_wp2
  rw [Lib.run_to_unsafe w ⟨b, 0, none⟩ Tryz.underlying200 Tryz.underlying254 hj (by rw [hjs]; decide) hsh (Nat.zero_lt_succ 1)]
  simp only [Result.andThen]
  rw [Oper.upon_value]
  go_wp2
  rw [run_callFunc_extern Tryz.func161 (by kernel_rfl) (by kernel_rfl) (by kernel_rfl) (e := Extern.AbiNoEscape.same) (by kernel_rfl)]
  rw [Lib.run_noEscape]
  simp only [Result.andThen]
  rw [Oper.upon_value]
  go_wp2
  rw [Lib.run_from_unsafe w ⟨b, 0, none⟩ Tryz.underlying254 Tryz.underlying200 hj hsh liesB]
  simp only [Result.andThen]
  rw [Oper.upon_value]
  go_wp2
  go_end0
  exact ⟨rfl, rfl⟩
open Go.Lib
theorem hold_appendStr {T : Tab} {P : Program} {V : Env} {R : Ending → World → Prop} {F : Exit → Act → World → Prop} {all rest : List Oper} {o : Oper} {k : List KI} {fs : List Value} {w : World} {s x : Operand} {t u e : Nat} {i : TypeInfo}
    (ho : o.op = .call ⟨.builtin .append, #[s, x], #[t, u]⟩) (ht : P.underlying t = some (.slice e)) (hu : P.underlying u = some .string) (hi : P.info? e = some i) (hz : i.zero = some (.int .u8 0)) (hsize : i.size = 1) (hby : i.bytes = 1)
    (base : Nat) {v : Value} {n : Nat} {xs : List Value} (hown : w.ownsRowF base e 1 v n xs) {str : ByteArray} (hv : ev fs s = v) (hx : ev fs x = .string str) (h63 : n + str.size ≤ maxLen) (hb : n + str.size ≤ 140737488355328) (hbase : base ≤ w.heap.size)
    (h : ∀ v' w', w'.ownsRowF base e 1 v' (n + str.size) (xs ++ strCells str) → w.grownBy w' v.ownBlock → Hold P T V R F (.ops all rest) k (put fs o.dst v') w') : Hold P T V R F (.gop .run all o rest) k fs w := by
  obtain ⟨ty, cs, hr⟩ := exec_builtin (P := P) (fs := fs) ho w
  obtain ⟨v', w', a1, a2, a3, _⟩ := run_append_own_stringF (P := P) w base t u ty e i ht hu hi hz hsize hby v n xs hown str h63 hb hbase
  refine hold_val (fun c => by rw [ho]; simp) (v := v') (w' := w') ?_ (h v' w' a2 a3)
  rw [hr]; simp only [evs, hv, hx, builtin, Sem.run_bind, a1, Result.andThen_ok, Sem.run_pure]
/-- What a Builder's call may have turned: the Builder, its row of bytes. -/
def BC (w : World) (x : Nat) : Prop := (∃ (cs : Array Value) (t : Nat) (fr : Nat × Nat), w.heap[x]? = some (.cells cs t fr) ∧ (t = 5 ∨ t = 202)) ∨ w.heap.size ≤ x
def BM (b : Nat) (w w' : World) : Prop := ∃ Z, Mod Z w w' ∧ ∀ x ∈ Z, b ≤ x ∧ BC w x
theorem BM.refl (b : Nat) (w : World) : BM b w w := ⟨[], Mod.refl _ _, by simp⟩
theorem BM.trans {b : Nat} {w w' w'' : World} (h : BM b w w') (k : BM b w' w'') : BM b w w'' := by
  obtain ⟨Z, h1, h2⟩ := h
  obtain ⟨Y, k1, k2⟩ := k
  refine ⟨Z ++ Y, (h1.mono (by simp +contextual)).trans k1 (fun x hx => .inl (by simp [hx])), fun x hx => ?_⟩
  rw [List.mem_append] at hx
  by_cases hz : x ∈ Z
  · exact h2 x hz
  · have hy := hx.resolve_left hz
    refine ⟨(k2 x hy).1, ?_⟩
    by_cases hlt : x < w.heap.size
    · rcases (k2 x hy).2 with ⟨cs, t, fr, g1, g2⟩ | g
      · rw [h1.block x hlt hz] at g1; exact .inl ⟨cs, t, fr, g1, g2⟩
      · have := h1.size; omega
    · exact .inr (by omega)
theorem BM.below {b : Nat} {w w' : World} (h : BM b w w') (hb : b ≤ w.heap.size) : Below b w w' := by
  obtain ⟨Z, h1, h2⟩ := h
  exact h1.below hb fun x hx => (h2 x hx).1
theorem bCheck_cps (B b : Nat) (bs : List Value) (w : World) (h : IsBuilderF 202 5 B b bs w) (R : Ending → World → Prop) (hR : ∀ w', BuilderAtF 202 5 B b (.pointer (some ⟨b, 0, none⟩)) bs w' → BM B w w' → R (.returned (.tuple #[])) w') :
    Calls Tryz.prog 151 #[.pointer (some ⟨b, 0, none⟩)] w R := by
  rcases h with h | h
  · refine (bCheck_fresh b w h.cell0 h.shape h.frozen0).mono ?_
    rintro e w' ⟨rfl, rfl⟩
    have hb1 := h.1
    obtain ⟨_, v, hbk, _⟩ := id h
    exact hR _ (h.used _) ⟨[b], (Mod.refl [b] w).set (p := ⟨b, 0, none⟩) (.inl (by simp)) _, by intro x hx; simp only [List.mem_cons, List.not_mem_nil, or_false] at hx; subst hx; exact ⟨hb1, .inl ⟨_, _, _, hbk, .inr rfl⟩⟩⟩
  · refine (bCheck_used b w h.cell0).mono ?_
    rintro e w' ⟨rfl, rfl⟩
    exact hR _ h (BM.refl B _)
theorem infoU8 : (Tryz.prog.info? 5).map (fun i => (i.zero, i.size, i.bytes)) = some (some (.int .u8 0), 1, 1) := by kernel_rfl
theorem bWrite_cps (B b : Nat) (bs : List Value) (s : List UInt8) (w : World) (h : IsBuilderF 202 5 B b bs w) (hlen : bs.length + s.length ≤ 140737488355328) (hBw : B ≤ w.heap.size) (R : Ending → World → Prop)
    (hR : ∀ w', BuilderAtF 202 5 B b (.pointer (some ⟨b, 0, none⟩)) (bs ++ strCells ⟨s.toArray⟩) w' → BM B w w' → R (.returned (.tuple #[.int .i64 s.length, .nilIface])) w') :
    Calls Tryz.prog 109 #[.pointer (some ⟨b, 0, none⟩), .string ⟨s.toArray⟩] w R := by
  obtain ⟨i0, hi, hz⟩ := Option.map_eq_some_iff.1 infoU8
  simp only [Prod.mk.injEq] at hz
  obtain ⟨hz0, hz1, hz2⟩ := hz
  refine calls_go 4000 okT Tryz.func109 rfl (rs := [.tmp 4, .tmp 5]) rfl Tryz.ntmps109 (args := [.pointer (some ⟨b, 0, none⟩), .string ⟨s.toArray⟩]) ?_
  simp (maxSteps := 1000000) (disch := first | omega | (simp only [sizeAlloc, sizeDrew, sizeSet, sizePut] <;> omega) | fail) only [GS, TT_eq, TTl, Nat.reduceAdd, Nat.reduceMul, Nat.reduceSub, Nat.reduceDiv, Nat.reduceMod, Nat.reducePow, Nat.reduceEqDiff, ↓reduceIte, reduceCtorEq, Int.reduceToNat, Int.reduceAdd, Int.reduceSub, Int.reduceMul]
  refine ⟨fok151, bCheck_cps B b bs _ h _ fun w1 h1 hb1 => .inl ⟨_, rfl, hold_ops okT (rs := [.tmp 4, .tmp 5]) rfl ?_⟩⟩
  obtain ⟨hB, v, hbk, hown, hne⟩ := h1
  have c1 : w1.cell? ⟨b, 1, none⟩ = some v := by rw [cellOf hbk]; rfl
  simp (maxSteps := 1000000) (disch := first | omega | (simp only [sizeAlloc, sizeDrew, sizeSet, sizePut] <;> omega) | fail) only [GS, TT_eq, TTl, Nat.reduceAdd, Nat.reduceMul, Nat.reduceSub, Nat.reduceDiv, Nat.reduceMod, Nat.reducePow, Nat.reduceEqDiff, ↓reduceIte, reduceCtorEq, Int.reduceToNat, Int.reduceAdd, Int.reduceSub, Int.reduceMul, c1]
  have hsz : (⟨s.toArray⟩ : ByteArray).size = s.length := rfl
  have hbs := (hb1.below hBw).size
  refine hold_appendStr rfl Tryz.underlying51 Tryz.underlying9 hi hz0 hz1 hz2 B hown rfl rfl (by rw [hsz]; unfold maxLen; omega) (by rw [hsz]; omega) (by omega) fun v' w2 hown' hg => ?_
  rw [hsz] at hown'
  have hlt : b < w1.heap.size := ltOf hbk
  have hb2 : w2.heap[b]? = some (.cells #[.pointer (some ⟨b, 0, none⟩), v] 202 (0, 0)) := by
    rw [hg.block b hlt (fun e => hne e.symm)]; exact hbk
  have d1 : w2.cell? ⟨b, 1, none⟩ = some v := by rw [cellOf hb2]; rfl
  have f1 := frozenOf (o := 1) hb2
  have hB2 : BM B w w2 := hb1.trans ⟨v.ownBlock.toList, (Mod.refl _ w1).grown hg (fun k hk => .inl (by simp [hk])), fun x hx => by
    have hx' : v.ownBlock = some x := by simpa using hx
    refine ⟨(hown.lt x hx').1, ?_⟩
    rcases hown.2 with ⟨rfl, _⟩ | ⟨g, cap, cur, fz, rfl, _, hg, _⟩
    · simp [Value.ownBlock] at hx'
    · simp only [Value.ownBlock, Option.some.injEq] at hx'
      subst hx'
      exact .inl ⟨_, _, _, hg, .inl rfl⟩⟩
  obtain ⟨ao, n', cap, rfl⟩ : ∃ ao n' cap, v' = .slice ao n' cap := by
    rcases hown'.2 with ⟨hv, _⟩ | ⟨g, cap, cur, fz, hv, _⟩
    · exact ⟨_, _, _, hv⟩
    · exact ⟨_, _, _, hv⟩
  refine hold_ops okT (rs := [.tmp 4, .tmp 5]) rfl ?_
  simp (maxSteps := 1000000) (disch := first | omega | (simp only [sizeAlloc, sizeDrew, sizeSet, sizePut] <;> omega) | fail) only [GS, TT_eq, TTl, Nat.reduceAdd, Nat.reduceMul, Nat.reduceSub, Nat.reduceDiv, Nat.reduceMod, Nat.reducePow, Nat.reduceEqDiff, ↓reduceIte, reduceCtorEq, Int.reduceToNat, Int.reduceAdd, Int.reduceSub, Int.reduceMul, d1, f1]
  refine hR _ (BuilderAtF.put hB hb2 (bs' := bs ++ strCells ⟨s.toArray⟩) ?_ (by decide)) (hB2.trans ⟨[b], (Mod.refl [b] w2).set (p := ⟨b, 1, none⟩) (.inl (by simp)) _, by intro x hx; simp only [List.mem_cons, List.not_mem_nil, or_false] at hx; subst hx; exact ⟨hB, .inl ⟨_, _, _, hb2, .inr rfl⟩⟩⟩)
  rw [List.length_append, strCells_length, hsz]; exact hown'
theorem bLen_cps (B b : Nat) (bs : List Value) (w : World) (h : IsBuilderF 202 5 B b bs w) (hl : bs.length ≤ 140737488355328) (R : Ending → World → Prop) (hR : R (.returned (.int .i64 bs.length)) w) :
    Calls Tryz.prog 110 #[.pointer (some ⟨b, 0, none⟩)] w R := by
  obtain ⟨p, hB, v, hbk, hown, hne⟩ : ∃ p, BuilderAtF 202 5 B b p bs w := by
    rcases h with h | h
    · exact ⟨_, h⟩
    · exact ⟨_, h⟩
  obtain ⟨ao, cap, rfl⟩ : ∃ ao cap, v = .slice ao bs.length cap := by
    rcases hown.2 with ⟨hv, h0⟩ | ⟨g, cap, cur, fz, hv, _⟩
    · exact ⟨none, 0, by rw [hv, h0]⟩
    · exact ⟨_, _, hv⟩
  have c1 : w.cell? ⟨b, 1, none⟩ = some (.slice ao bs.length cap) := by rw [cellOf hbk]; rfl
  refine calls_go 4000 okT Tryz.func110 rfl (rs := [.tmp 2]) rfl Tryz.ntmps110 (args := [.pointer (some ⟨b, 0, none⟩)]) ?_
  simp (maxSteps := 1000000) (disch := first | omega | (simp only [sizeAlloc, sizeDrew, sizeSet, sizePut] <;> omega) | fail) only [GS, TT_eq, TTl, Nat.reduceAdd, Nat.reduceMul, Nat.reduceSub, Nat.reduceDiv, Nat.reduceMod, Nat.reducePow, Nat.reduceEqDiff, ↓reduceIte, reduceCtorEq, Int.reduceToNat, Int.reduceAdd, Int.reduceSub, Int.reduceMul, c1]
  exact hR
theorem cellsU8 : Tryz.prog.cellsOf 5 = 1 := by kernel_rfl
theorem bString (B b : Nat) (l : List UInt8) (w : World) (h : IsBuilderF 202 5 B b (byteCells l) w) (h0 : l ≠ []) :
    Calls Tryz.prog 111 #[.pointer (some ⟨b, 0, none⟩)] w fun e w' => e = .returned (.string ⟨l.toArray⟩) ∧ (IsBuilderF 202 5 B b (byteCells l) w' ∧ BM B w w') := by
  obtain ⟨p, hp, hAt⟩ : ∃ p, (p = .pointer none ∨ p = .pointer (some ⟨b, 0, none⟩)) ∧ BuilderAtF 202 5 B b p (byteCells l) w := by
    rcases h with h | h
    · exact ⟨_, .inl rfl, h⟩
    · exact ⟨_, .inr rfl, h⟩
  obtain ⟨hB, v, hbk, hown, hne⟩ := hAt
  have hl0 : l.length ≠ 0 := by simpa using h0
  rw [byteCells_length] at hown
  obtain ⟨g, cap, cur, fz, rfl, hbg, hg, hfz, hnc, hcm, hcs, htake⟩ : ∃ g cap cur fz, v = .slice (some ⟨g, 0, none⟩) l.length cap ∧ B ≤ g ∧ w.heap[g]? = some (.cells cur 5 fz) ∧ fz.2 ≤ l.length * 1 ∧ l.length ≤ cap ∧ cap ≤ maxLen ∧ cur.size = cap * 1 ∧ cur.toList.take (l.length * 1) = byteCells l := by
    rcases hown.2 with ⟨_, hz⟩ | ⟨g, cap, cur, fz, hv, r⟩
    · exact absurd hz hl0
    · exact ⟨g, cap, cur, fz, hv, r⟩
  have c1 : w.drew.cell? ⟨b, 1, none⟩ = some (.slice (some ⟨g, 0, none⟩) l.length cap) := by
    have : w.drew.heap[b]? = some (.cells #[p, .slice (some ⟨g, 0, none⟩) l.length cap] 202 (0, 0)) := hbk
    rw [cell_of_heap this]; rfl
  have hSD : (Builtin.unsafeSliceData_ #[51] 243 #[.slice (some ⟨g, 0, none⟩) l.length cap]).run Tryz.prog w.drew = .ok (.pointer (some ⟨g, 0, none⟩)) w.drew :=
    run_unsafeSliceData_row _ _ _ _ _ _ (by omega)
  have hUS : (Builtin.unsafeString_ #[243, 3] 9 #[.pointer (some ⟨g, 0, none⟩), .int .i64 l.length]).run Tryz.prog w.drew = .ok (.string ⟨l.toArray⟩) (w.drew.freeze ⟨g, 0, none⟩ l.length) := by
    refine run_unsafeString_row w.drew 243 3 9 5 Tryz.underlying243 cellsU8 g cur.size (by have hg' : w.drew.heap[g]? = some (.cells cur 5 fz) := hg; simp [World.shape?, hg']) l h0 (by omega) (by unfold maxLen at hcm; omega) ?_
    intro j x hx
    exact hown.cells (g := g) rfl j (.int .u8 x.toNat) (by simp [byteCells, hx])
  have hkeep : IsBuilderF 202 5 B b (byteCells l) (w.drew.freeze ⟨g, 0, none⟩ l.length) := by
    have hA : BuilderAtF 202 5 B b p (byteCells l) w.drew := ⟨hB, _, hbk, by rw [byteCells_length]; exact hown, hne⟩
    have hF := hA.froze (g := g) (cap := cap) (by rw [byteCells_length]; exact c1)
    rw [byteCells_length] at hF
    rcases hp with rfl | rfl
    · exact .inl hF
    · exact .inr hF
  have hbm : BM B w (w.drew.freeze ⟨g, 0, none⟩ l.length) := by
    have hz : Mod [g] w.drew (w.drew.freeze ⟨g, 0, none⟩ l.length) := by
      unfold World.freeze
      split
      · exact Mod.refl _ _
      · exact ⟨rfl, rfl, rfl, by simp, fun k hk hn => by
          simp only [List.mem_cons, List.not_mem_nil, or_false] at hn
          simp only [Array.getElem?_modify]
          rw [if_neg (Ne.symm hn)]⟩
    refine ⟨[g], (show Mod [g] w w.drew from (Mod.refl [g] w).drewN 1).trans hz (fun x hx => .inl hx), ?_⟩
    · intro x hx; simp only [List.mem_cons, List.not_mem_nil, or_false] at hx; subst hx; exact ⟨hbg, .inl ⟨_, _, _, hg, .inl rfl⟩⟩
  have hmix : Tryz.prog.follows Departure.mixedOrders = true := okT.mixed
  go_enter Tryz.func111, Tryz.ntmps111
  go_wp2
  go_region_o
  all_goals (go_wp2; go_ret; exact ⟨rfl, hkeep, hbm⟩)
/-- At b stands a Builder that holds l; its row is younger. -/
def Bd (b : Nat) (l : List UInt8) (w : World) : Prop := IsBuilderF 202 5 b b (byteCells l) w
theorem ownF_mod {S : List Nat} {w w' : World} {base e size n : Nat} {v : Value} {xs : List Value} (h : w.ownsRowF base e size v n xs) (hm : Mod S w w') (hn : ∀ x ∈ S, x < base) : w'.ownsRowF base e size v n xs := by
  refine ⟨h.1, ?_⟩
  rcases h.2 with h1 | ⟨g, cap, cur, fz, rfl, hb, hg, rest⟩
  · exact .inl h1
  · exact .inr ⟨g, cap, cur, fz, rfl, hb, hm.get hg (fun hx => by have := hn g hx; omega), rest⟩
theorem Bd.mod {S : List Nat} {b : Nat} {l : List UInt8} {w w' : World} (h : Bd b l w) (hm : Mod S w w') (hn : ∀ x ∈ S, x < b) : Bd b l w' := by
  have key : ∀ p, BuilderAtF 202 5 b b p (byteCells l) w → BuilderAtF 202 5 b b p (byteCells l) w' := by
    rintro p ⟨hB, v, hb, hown, hne⟩
    exact ⟨hB, v, hm.get hb (fun hx => by have := hn b hx; omega), ownF_mod hown hm hn, hne⟩
  rcases h with h | h
  · exact .inl (key _ h)
  · exact .inr (key _ h)
theorem Bd.new {w : World} : Bd w.heap.size [] (w.alloc (.cells #[.pointer none, .slice none 0 0] 202)) :=
  .inl ⟨Nat.le_refl _, _, heapNew, World.ownsRowF_nil _ _ _ _, by simp [Value.ownBlock]⟩
theorem Mod.under {S : List Nat} {B : Nat} {w0 w w' : World} (h : Mod S w0 w) (hb : Below B w w') (hB : w0.heap.size ≤ B) : Mod S w0 w' :=
  ⟨hb.os.trans h.os, hb.tape.trans h.tape, hb.output.trans h.output, Nat.le_trans h.size hb.size, fun k hk hn => (hb.block k (by omega)).trans (h.block k hk hn)⟩
theorem Bd.lt {b : Nat} {l : List UInt8} {w : World} (h : Bd b l w) : b < w.heap.size := by
  rcases h with h | h <;> exact h.lt
theorem bdWrite_cps (b : Nat) (cur s : List UInt8) (w : World) (h : Bd b cur w) (hlen : cur.length + s.length ≤ 140737488355328) (R : Ending → World → Prop)
    (hR : ∀ w', Bd b (cur ++ s) w' → BM b w w' → R (.returned (.tuple #[.int .i64 s.length, .nilIface])) w') :
    Calls Tryz.prog 109 #[.pointer (some ⟨b, 0, none⟩), .string ⟨s.toArray⟩] w R := by
  refine bWrite_cps b b (byteCells cur) s w h (by rw [byteCells_length]; exact hlen) (Nat.le_of_lt h.lt) R fun w' h' hb => hR w' (.inr ?_) hb
  rw [byteCells_append]; exact h'
theorem bdLen_cps (b : Nat) (cur : List UInt8) (w : World) (h : Bd b cur w) (hl : cur.length ≤ 140737488355328) (R : Ending → World → Prop) (hR : R (.returned (.int .i64 cur.length)) w) :
    Calls Tryz.prog 110 #[.pointer (some ⟨b, 0, none⟩)] w R :=
  bLen_cps b b (byteCells cur) w h (by rw [byteCells_length]; exact hl) R (by rw [byteCells_length]; exact hR)
theorem bdString_cps (b : Nat) (cur : List UInt8) (w : World) (h : Bd b cur w) (h0 : cur ≠ []) (R : Ending → World → Prop) (hR : ∀ w', Bd b cur w' → BM b w w' → R (.returned (.string ⟨cur.toArray⟩)) w') :
    Calls Tryz.prog 111 #[.pointer (some ⟨b, 0, none⟩)] w R := by
  refine (bString b b cur w h h0).mono ?_
  rintro e w' ⟨rfl, h1, h2⟩
  exact hR w' h1 h2
/-- The parts, behind what stands there, as long as it is not too long. -/
def joinS : List UInt8 → List (List UInt8) → List UInt8
  | s, [] => s
  | s, x :: l => if s.length ≤ 16384 then joinS (s ++ x) l else s
def madeS (front : List UInt8) (l : List (List UInt8)) : List UInt8 × Int :=
  if allS l = true then (if checkS (joinS front l) = 0 then (joinS front l, 0) else ([], 5)) else ([], 2)
theorem tMade_cps (front : List UInt8) (hf0 : front ≠ []) (hf : front.length ≤ 100) (sa : Value) (xs : List (List UInt8)) (w : World) (R : Ending → World → Prop) (hx : xs.length ≤ 9223372036854775807) (hxs : ∀ s ∈ xs, s.length ≤ 1000000) (ha : Rd w 1 sa xs.length (xs.map strV))
    (hR : ∀ w', Mod [] w w' → R (.returned (stV (madeS front xs))) w') : Calls Tryz.prog 77 #[.string ⟨front.toArray⟩, sa] w R := by
  have hxs' : ∀ s ∈ xs, s.length ≤ maxLen := fun s h => by have := hxs s h; unfold maxLen; omega
  obtain ⟨a, ca, rfl⟩ := ha.slice
  unfold madeS at hR
  refine calls_go 4000 okT Tryz.func77 rfl (rs := [.tmp 4, .tmp 5]) rfl Tryz.ntmps77 (args := [.string ⟨front.toArray⟩, .slice a xs.length ca]) ?_
  simp (maxSteps := 1000000) (disch := first | omega | (simp only [sizeAlloc, sizeDrew, sizeSet, sizePut] <;> omega) | fail) only [GS, TT_eq, TTl, Nat.reduceAdd, Nat.reduceMul, Nat.reduceSub, Nat.reduceDiv, Nat.reduceMod, Nat.reducePow, Nat.reduceEqDiff, ↓reduceIte, reduceCtorEq, Int.reduceToNat, Int.reduceAdd, Int.reduceSub, Int.reduceMul]
  refine ⟨fok68, tIs_cps _ xs _ _ hx hxs' ha fun w1 hM1 => .inl ⟨_, rfl, hold_ops okT (rs := [.tmp 4, .tmp 5]) rfl ?_⟩⟩
  generalize allS xs = b at hR ⊢
  cases b
  · rw [if_neg (by simp)] at hR
    simp (maxSteps := 1000000) (disch := first | omega | (simp only [sizeAlloc, sizeDrew, sizeSet, sizePut] <;> omega) | fail) only [GS, TT_eq, TTl, Nat.reduceAdd, Nat.reduceMul, Nat.reduceSub, Nat.reduceDiv, Nat.reduceMod, Nat.reducePow, Nat.reduceEqDiff, ↓reduceIte, reduceCtorEq, Int.reduceToNat, Int.reduceAdd, Int.reduceSub, Int.reduceMul]
    exact hR _ hM1
  · rw [if_pos rfl] at hR
    simp (maxSteps := 1000000) (disch := first | omega | (simp only [sizeAlloc, sizeDrew, sizeSet, sizePut] <;> omega) | fail) only [GS, TT_eq, TTl, Nat.reduceAdd, Nat.reduceMul, Nat.reduceSub, Nat.reduceDiv, Nat.reduceMod, Nat.reducePow, Nat.reduceEqDiff, ↓reduceIte, reduceCtorEq, Int.reduceToNat, Int.reduceAdd, Int.reduceSub, Int.reduceMul]
    have hb0 := Bd.new (w := w1)
    generalize hB : w1.heap.size = B at hb0 ⊢
    have hwB : w.heap.size ≤ B := by have := hM1.size; omega
    have hM2 := hM1.alloc (.cells #[.pointer none, .slice none 0 0] 202)
    generalize w1.alloc (.cells #[.pointer none, .slice none 0 0] 202) = w2 at hb0 hM2 ⊢
    refine ⟨fok109, bdWrite_cps B [] front _ hb0 (by simp; omega) _ fun w3 hb3 hl3 => .inl ⟨_, rfl, hold_ops okT (rs := [.tmp 4, .tmp 5]) rfl ?_⟩⟩
    rw [List.nil_append] at hb3
    have hM3 := Mod.under hM2 (hl3.below (Nat.le_of_lt hb0.lt)) hwB
    simp (maxSteps := 1000000) (disch := first | omega | (simp only [sizeAlloc, sizeDrew, sizeSet, sizePut] <;> omega) | fail) only [GS, TT_eq, TTl, Nat.reduceAdd, Nat.reduceMul, Nat.reduceSub, Nat.reduceDiv, Nat.reduceMod, Nat.reducePow, Nat.reduceEqDiff, ↓reduceIte, reduceCtorEq, Int.reduceToNat, Int.reduceAdd, Int.reduceSub, Int.reduceMul]
    refine hold_loop okT (rs := [.tmp 4, .tmp 5]) rfl [16] [8, 17, 18, 19, 20, 21, 22, 23, 24] (fun vs w' => ∃ (k : Nat) (cur : List UInt8), k ≤ xs.length ∧ vs = [.int .i64 k] ∧ cur ≠ [] ∧ cur.length ≤ 1020000 ∧ Bd B cur w' ∧ Mod [] w w' ∧ joinS front xs = joinS cur (xs.drop k)) (fun vs _ => match vs with | [.int _ i] => xs.length - i.toNat | _ => 0) (by kernel_rfl) ⟨0, front, by omega, rfl, hf0, by omega, hb3, hM3, rfl⟩ ?_
    rintro vs w4 J ⟨k, cur, hk, rfl, hne, hcl, hb, hM, hj⟩
    by_cases hlt : k < xs.length
    · obtain ⟨b1, o1, c1, e1, _, g1⟩ := (ha.mod hM (by simp)).at (by omega) (by omega)
      have f1 := g1 k _ (getS hlt)
      rw [Value.slice.injEq] at e1
      obtain ⟨rfl, -, -⟩ := e1
      have hms := hxs _ (List.getElem_mem hlt)
      simp (maxSteps := 1000000) (disch := first | omega | (simp only [sizeAlloc, sizeDrew, sizeSet, sizePut] <;> omega) | fail) only [GS, TT_eq, TTl, Nat.reduceAdd, Nat.reduceMul, Nat.reduceSub, Nat.reduceDiv, Nat.reduceMod, Nat.reducePow, Nat.reduceEqDiff, ↓reduceIte, reduceCtorEq, Int.reduceToNat, Int.reduceAdd, Int.reduceSub, Int.reduceMul, f1]
      refine ⟨fok110, bdLen_cps B cur _ hb (by omega) _ (.inl ⟨_, rfl, hold_ops okT (rs := [.tmp 4, .tmp 5]) rfl ?_⟩)⟩
      rw [List.drop_eq_getElem_cons hlt, joinS] at hj
      by_cases hlong : 16384 < cur.length
      · have hend : joinS front xs = cur := by rw [hj, if_neg (by omega)]
        have e0 : joinS front xs = cur := hend
        simp (maxSteps := 1000000) (disch := first | omega | (simp only [sizeAlloc, sizeDrew, sizeSet, sizePut] <;> omega) | fail) only [GS, TT_eq, TTl, Nat.reduceAdd, Nat.reduceMul, Nat.reduceSub, Nat.reduceDiv, Nat.reduceMod, Nat.reducePow, Nat.reduceEqDiff, ↓reduceIte, reduceCtorEq, Int.reduceToNat, Int.reduceAdd, Int.reduceSub, Int.reduceMul]
        refine ⟨fok111, bdString_cps B cur _ hb hne _ fun w5 hb5 hl5 => .inl ⟨_, rfl, hold_ops okT (rs := [.tmp 4, .tmp 5]) rfl ?_⟩⟩
        have hM5 := Mod.under hM (hl5.below (Nat.le_of_lt hb.lt)) hwB
        simp (maxSteps := 1000000) (disch := first | omega | (simp only [sizeAlloc, sizeDrew, sizeSet, sizePut] <;> omega) | fail) only [GS, TT_eq, TTl, Nat.reduceAdd, Nat.reduceMul, Nat.reduceSub, Nat.reduceDiv, Nat.reduceMod, Nat.reducePow, Nat.reduceEqDiff, ↓reduceIte, reduceCtorEq, Int.reduceToNat, Int.reduceAdd, Int.reduceSub, Int.reduceMul]
        refine ⟨fok72, tCheck_cps cur (by unfold maxLen; omega) _ _ fun w6 hM6 => .inl ⟨_, rfl, hold_ops okT (rs := [.tmp 4, .tmp 5]) rfl ?_⟩⟩
        rw [e0] at hR
        have hb6 := hb5.mod hM6 (by simp)
        have hM7 := hM5.trans hM6 (by simp)
        generalize checkS cur = e at hR ⊢
        by_cases he : e = 0
        · subst he
          rw [if_pos rfl] at hR
          simp (maxSteps := 1000000) (disch := first | omega | (simp only [sizeAlloc, sizeDrew, sizeSet, sizePut] <;> omega) | fail) only [GS, TT_eq, TTl, Nat.reduceAdd, Nat.reduceMul, Nat.reduceSub, Nat.reduceDiv, Nat.reduceMod, Nat.reducePow, Nat.reduceEqDiff, ↓reduceIte, reduceCtorEq, Int.reduceToNat, Int.reduceAdd, Int.reduceSub, Int.reduceMul]
          refine ⟨fok111, bdString_cps B cur _ hb6 hne _ fun w8 hb8 hl8 => .inl ⟨_, rfl, hold_ops okT (rs := [.tmp 4, .tmp 5]) rfl ?_⟩⟩
          simp (maxSteps := 1000000) (disch := first | omega | (simp only [sizeAlloc, sizeDrew, sizeSet, sizePut] <;> omega) | fail) only [GS, TT_eq, TTl, Nat.reduceAdd, Nat.reduceMul, Nat.reduceSub, Nat.reduceDiv, Nat.reduceMod, Nat.reducePow, Nat.reduceEqDiff, ↓reduceIte, reduceCtorEq, Int.reduceToNat, Int.reduceAdd, Int.reduceSub, Int.reduceMul]
          exact hR _ (Mod.under hM7 (hl8.below (Nat.le_of_lt hb6.lt)) hwB)
        · rw [if_neg he] at hR
          simp (maxSteps := 1000000) (disch := first | omega | (simp only [sizeAlloc, sizeDrew, sizeSet, sizePut] <;> omega) | fail) only [GS, TT_eq, TTl, Nat.reduceAdd, Nat.reduceMul, Nat.reduceSub, Nat.reduceDiv, Nat.reduceMod, Nat.reducePow, Nat.reduceEqDiff, ↓reduceIte, reduceCtorEq, Int.reduceToNat, Int.reduceAdd, Int.reduceSub, Int.reduceMul]
          exact hR _ hM7
      · rw [if_pos (by omega)] at hj
        simp (maxSteps := 1000000) (disch := first | omega | (simp only [sizeAlloc, sizeDrew, sizeSet, sizePut] <;> omega) | fail) only [GS, TT_eq, TTl, Nat.reduceAdd, Nat.reduceMul, Nat.reduceSub, Nat.reduceDiv, Nat.reduceMod, Nat.reducePow, Nat.reduceEqDiff, ↓reduceIte, reduceCtorEq, Int.reduceToNat, Int.reduceAdd, Int.reduceSub, Int.reduceMul, f1]
        refine ⟨fok109, bdWrite_cps B cur xs[k] _ hb (by omega) _ fun w5 hb5 hl5 => .inl ⟨_, rfl, hold_ops okT (rs := [.tmp 4, .tmp 5]) rfl ?_⟩⟩
        simp (maxSteps := 1000000) (disch := first | omega | (simp only [sizeAlloc, sizeDrew, sizeSet, sizePut] <;> omega) | fail) only [GS, TT_eq, TTl, Nat.reduceAdd, Nat.reduceMul, Nat.reduceSub, Nat.reduceDiv, Nat.reduceMod, Nat.reducePow, Nat.reduceEqDiff, ↓reduceIte, reduceCtorEq, Int.reduceToNat, Int.reduceAdd, Int.reduceSub, Int.reduceMul]
        exact ⟨⟨k + 1, cur ++ xs[k], by omega, rfl, by simp [hne], by rw [List.length_append]; omega, hb5, Mod.under hM (hl5.below (Nat.le_of_lt hb.lt)) hwB, hj⟩, by omega⟩
    · have hend : joinS front xs = cur := by rw [hj, List.drop_eq_nil_of_le (by omega)]; rfl
      have e0 : joinS front xs = cur := hend
      simp (maxSteps := 1000000) (disch := first | omega | (simp only [sizeAlloc, sizeDrew, sizeSet, sizePut] <;> omega) | fail) only [GS, TT_eq, TTl, Nat.reduceAdd, Nat.reduceMul, Nat.reduceSub, Nat.reduceDiv, Nat.reduceMod, Nat.reducePow, Nat.reduceEqDiff, ↓reduceIte, reduceCtorEq, Int.reduceToNat, Int.reduceAdd, Int.reduceSub, Int.reduceMul]
      refine ⟨fok111, bdString_cps B cur _ hb hne _ fun w5 hb5 hl5 => .inl ⟨_, rfl, hold_ops okT (rs := [.tmp 4, .tmp 5]) rfl ?_⟩⟩
      have hM5 := Mod.under hM (hl5.below (Nat.le_of_lt hb.lt)) hwB
      simp (maxSteps := 1000000) (disch := first | omega | (simp only [sizeAlloc, sizeDrew, sizeSet, sizePut] <;> omega) | fail) only [GS, TT_eq, TTl, Nat.reduceAdd, Nat.reduceMul, Nat.reduceSub, Nat.reduceDiv, Nat.reduceMod, Nat.reducePow, Nat.reduceEqDiff, ↓reduceIte, reduceCtorEq, Int.reduceToNat, Int.reduceAdd, Int.reduceSub, Int.reduceMul]
      refine ⟨fok72, tCheck_cps cur (by unfold maxLen; omega) _ _ fun w6 hM6 => .inl ⟨_, rfl, hold_ops okT (rs := [.tmp 4, .tmp 5]) rfl ?_⟩⟩
      rw [e0] at hR
      have hb6 := hb5.mod hM6 (by simp)
      have hM7 := hM5.trans hM6 (by simp)
      generalize checkS cur = e at hR ⊢
      by_cases he : e = 0
      · subst he
        rw [if_pos rfl] at hR
        simp (maxSteps := 1000000) (disch := first | omega | (simp only [sizeAlloc, sizeDrew, sizeSet, sizePut] <;> omega) | fail) only [GS, TT_eq, TTl, Nat.reduceAdd, Nat.reduceMul, Nat.reduceSub, Nat.reduceDiv, Nat.reduceMod, Nat.reducePow, Nat.reduceEqDiff, ↓reduceIte, reduceCtorEq, Int.reduceToNat, Int.reduceAdd, Int.reduceSub, Int.reduceMul]
        refine ⟨fok111, bdString_cps B cur _ hb6 hne _ fun w8 hb8 hl8 => .inl ⟨_, rfl, hold_ops okT (rs := [.tmp 4, .tmp 5]) rfl ?_⟩⟩
        simp (maxSteps := 1000000) (disch := first | omega | (simp only [sizeAlloc, sizeDrew, sizeSet, sizePut] <;> omega) | fail) only [GS, TT_eq, TTl, Nat.reduceAdd, Nat.reduceMul, Nat.reduceSub, Nat.reduceDiv, Nat.reduceMod, Nat.reducePow, Nat.reduceEqDiff, ↓reduceIte, reduceCtorEq, Int.reduceToNat, Int.reduceAdd, Int.reduceSub, Int.reduceMul]
        exact hR _ (Mod.under hM7 (hl8.below (Nat.le_of_lt hb6.lt)) hwB)
      · rw [if_neg he] at hR
        simp (maxSteps := 1000000) (disch := first | omega | (simp only [sizeAlloc, sizeDrew, sizeSet, sizePut] <;> omega) | fail) only [GS, TT_eq, TTl, Nat.reduceAdd, Nat.reduceMul, Nat.reduceSub, Nat.reduceDiv, Nat.reduceMod, Nat.reducePow, Nat.reduceEqDiff, ↓reduceIte, reduceCtorEq, Int.reduceToNat, Int.reduceAdd, Int.reduceSub, Int.reduceMul]
        exact hR _ hM7
theorem tRow_cps (sa : Value) (xs : List (List UInt8)) (w : World) (R : Ending → World → Prop) (hx : xs.length ≤ 9223372036854775807) (hxs : ∀ s ∈ xs, s.length ≤ 1000000) (ha : Rd w 1 sa xs.length (xs.map strV))
    (hR : ∀ w', Mod [] w w' → R (.returned (stV (madeS (114 :: numL xs.length) xs))) w') : Calls Tryz.prog 39 #[sa] w R := by
  obtain ⟨a, ca, rfl⟩ := ha.slice
  have hl := numL_len (v := xs.length) (by omega)
  refine calls_go 4000 okT Tryz.func39 rfl (rs := [.tmp 2, .tmp 3]) rfl Tryz.ntmps39 (args := [.slice a xs.length ca]) ?_
  simp (maxSteps := 1000000) (disch := first | omega | (simp only [sizeAlloc, sizeDrew, sizeSet, sizePut] <;> omega) | fail) only [GS, TT_eq, TTl, Nat.reduceAdd, Nat.reduceMul, Nat.reduceSub, Nat.reduceDiv, Nat.reduceMod, Nat.reducePow, Nat.reduceEqDiff, ↓reduceIte, reduceCtorEq, Int.reduceToNat, Int.reduceAdd, Int.reduceSub, Int.reduceMul]
  refine ⟨fok78, oNum_cps xs.length (by omega) _ _ fun w1 hM1 => .inl ⟨_, rfl, hold_ops okT (rs := [.tmp 2, .tmp 3]) rfl ?_⟩⟩
  simp (maxSteps := 1000000) (disch := first | omega | (simp only [sizeAlloc, sizeDrew, sizeSet, sizePut] <;> omega) | fail) only [GS, TT_eq, TTl, Nat.reduceAdd, Nat.reduceMul, Nat.reduceSub, Nat.reduceDiv, Nat.reduceMod, Nat.reducePow, Nat.reduceEqDiff, ↓reduceIte, reduceCtorEq, Int.reduceToNat, Int.reduceAdd, Int.reduceSub, Int.reduceMul]
  refine ⟨fok77, tMade_cps (114 :: numL xs.length) (by simp) (by simp; omega) _ xs _ _ hx hxs (ha.mod hM1 (by simp)) fun w2 hM2 => .inl ⟨_, rfl, hold_ops okT (rs := [.tmp 2, .tmp 3]) rfl ?_⟩⟩
  unfold stV
  simp (maxSteps := 1000000) (disch := first | omega | (simp only [sizeAlloc, sizeDrew, sizeSet, sizePut] <;> omega) | fail) only [GS, TT_eq, TTl, Nat.reduceAdd, Nat.reduceMul, Nat.reduceSub, Nat.reduceDiv, Nat.reduceMod, Nat.reducePow, Nat.reduceEqDiff, ↓reduceIte, reduceCtorEq, Int.reduceToNat, Int.reduceAdd, Int.reduceSub, Int.reduceMul]
  exact hR _ (hM1.trans hM2 (by simp))
theorem tMac_cps (x y : List UInt8) (hx : x.length ≤ 1000000) (hy : y.length ≤ 1000000) (w : World) (R : Ending → World → Prop) (hR : ∀ w', Mod [] w w' → R (.returned (stV (madeS [109] [x, y]))) w') : Calls Tryz.prog 190 #[.string ⟨x.toArray⟩, .string ⟨y.toArray⟩] w R := by
  refine calls_go 4000 okT Tryz.func190 rfl (rs := [.tmp 4, .tmp 5]) rfl Tryz.ntmps190 (args := [.string ⟨x.toArray⟩, .string ⟨y.toArray⟩]) ?_
  simp (maxSteps := 1000000) (disch := first | omega | (simp only [sizeAlloc, sizeDrew, sizeSet, sizePut] <;> omega) | fail) only [GS, TT_eq, TTl, Nat.reduceAdd, Nat.reduceMul, Nat.reduceSub, Nat.reduceDiv, Nat.reduceMod, Nat.reducePow, Nat.reduceEqDiff, ↓reduceIte, reduceCtorEq, Int.reduceToNat, Int.reduceAdd, Int.reduceSub, Int.reduceMul]
  have hrd : Rd (w.alloc (.cells #[.string ⟨x.toArray⟩, .string ⟨y.toArray⟩] 9)) 1 (.slice (some ⟨w.heap.size, 0, none⟩) 2 2) 2 ([x, y].map strV) := Rd.lit (n := 2) (xs := [.string ⟨x.toArray⟩, .string ⟨y.toArray⟩]) rfl
  refine ⟨fok77, tMade_cps [109] (by simp) (by simp) _ [x, y] _ _ (by simp) (by intro s hs; simp only [List.mem_cons, List.not_mem_nil, or_false] at hs; rcases hs with rfl | rfl <;> assumption) hrd fun w2 hM2 => .inl ⟨_, rfl, hold_ops okT (rs := [.tmp 4, .tmp 5]) rfl ?_⟩⟩
  unfold stV
  simp (maxSteps := 1000000) (disch := first | omega | (simp only [sizeAlloc, sizeDrew, sizeSet, sizePut] <;> omega) | fail) only [GS, TT_eq, TTl, Nat.reduceAdd, Nat.reduceMul, Nat.reduceSub, Nat.reduceDiv, Nat.reduceMod, Nat.reducePow, Nat.reduceEqDiff, ↓reduceIte, reduceCtorEq, Int.reduceToNat, Int.reduceAdd, Int.reduceSub, Int.reduceMul]
  exact hR _ (((Mod.refl _ _).alloc _).trans hM2 (by simp))
def kC (c : UInt8) : Nat := if c = 100 then 1 else if c = 97 then 2 else if c = 114 then 3 else if c = 104 then 4 else if c = 109 then 5 else if c = 115 then 6 else 0
def KL6 : List UInt8 := [100, 97, 114, 104, 109, 115]
theorem kC_ix (c : UInt8) : (1 : Int) + Lib.indexByte KL6 c = kC c := by
  have h : ∀ x : Fin 256, (1 : Int) + Lib.indexByte KL6 (UInt8.ofNat x.val) = kC (UInt8.ofNat x.val) := by decide
  have := h ⟨c.toNat, c.toNat_lt⟩
  simpa using this
theorem kC_le (c : UInt8) : kC c ≤ 6 := by unfold kC; repeat (first | split | omega)
def kindS (s : List UInt8) : Nat := if checkS s = 0 then kC (s.headD 0) else 0
def textS (s : List UInt8) : List UInt8 × Bool := if kindS s = 1 ∨ kindS s = 2 then ((readTextS (s.drop 1) 1024).1, true) else ([], false)
/-- What stands at the places of depth 2. -/
def cutS (S : List UInt8) (p : PL) : List UInt8 := (S.drop p.1).take (p.2.1 - p.1)
def pS (S : List UInt8) (l : List PL) : List (List UInt8) := (l.filter fun p => decide (p.2.2 = 2)).map (cutS S)
def partsS (s : List UInt8) : List (List UInt8) := pS s (walkS s 16 1 0).2.2
theorem walkS_nil {f d : Nat} : (walkS [] (f + 1) d 0).2.1 ≠ 0 := by simp [walkS, frontS]
theorem checkS_nil : checkS [] ≠ 0 := by decide
theorem rd1 (w : World) (s : List UInt8) : Rd (w.alloc (.cells #[.string ⟨s.toArray⟩] 9)) 1 (.slice (some ⟨w.heap.size, 0, none⟩) 1 1) 1 ([s].map strV) := Rd.lit (n := 1) (xs := [.string ⟨s.toArray⟩]) rfl
theorem allS_one (s : List UInt8) : allS [s] = decide (checkS s = 0) := by unfold allS; simp
/-- 'is' of one text. -/
theorem tIs1_cps (s : List UInt8) (hs : s.length ≤ maxLen) (w : World) (k : Nat) (hk : k = w.heap.size) (R : Ending → World → Prop) (hR : ∀ w', Mod [] (w.alloc (.cells #[.string ⟨s.toArray⟩] 9)) w' → R (.returned (.bool (decide (checkS s = 0)))) w') :
    Calls Tryz.prog 68 #[.slice (some ⟨k, 0, none⟩) 1 1] (w.alloc (.cells #[.string ⟨s.toArray⟩] 9)) R := by
  subst hk
  exact tIs_cps _ [s] _ R (by simp) (by simpa using hs) (rd1 w s) (by rw [allS_one]; exact hR)
theorem tKind_cps (s : List UInt8) (hs : s.length ≤ maxLen) (w : World) (R : Ending → World → Prop) (hR : ∀ w', Mod [] w w' → R (.returned (.int .u8 (kindS s))) w') :
    Calls Tryz.prog 32 #[.string ⟨s.toArray⟩] w R := by
  unfold kindS at hR
  refine calls_go 4000 okT Tryz.func32 rfl (rs := [.tmp 2]) rfl Tryz.ntmps32 (args := [.string ⟨s.toArray⟩]) ?_
  simp (maxSteps := 1000000) (disch := first | omega | (simp only [sizeAlloc, sizeDrew, sizeSet, sizePut] <;> omega) | fail) only [GS, TT_eq, TTl, Nat.reduceAdd, Nat.reduceMul, Nat.reduceSub, Nat.reduceDiv, Nat.reduceMod, Nat.reducePow, Nat.reduceEqDiff, ↓reduceIte, reduceCtorEq, Int.reduceToNat, Int.reduceAdd, Int.reduceSub, Int.reduceMul]
  refine ⟨fok68, tIs1_cps s hs w _ rfl _ fun w1 hM => .inl ⟨_, rfl, hold_ops okT (rs := [.tmp 2]) rfl ?_⟩⟩
  have hM1 := ((Mod.refl [] w).alloc _).trans hM (by simp)
  by_cases h : checkS s = 0
  · rw [decide_eq_true h]
    rw [if_pos h] at hR
    cases s with
    | nil => exact absurd h checkS_nil
    | cons c r =>
      have hk := kC_ix c
      have hk2 := kC_le c
      simp (maxSteps := 1000000) (disch := first | omega | (simp only [sizeAlloc, sizeDrew, sizeSet, sizePut] <;> omega) | fail) only [GS, TT_eq, TTl, Nat.reduceAdd, Nat.reduceMul, Nat.reduceSub, Nat.reduceDiv, Nat.reduceMod, Nat.reducePow, Nat.reduceEqDiff, ↓reduceIte, reduceCtorEq, Int.reduceToNat, Int.reduceAdd, Int.reduceSub, Int.reduceMul]
      refine ⟨fok69, sIndexByte_cps KL6 c _ _ (.inl ⟨_, rfl, hold_ops okT (rs := [.tmp 2]) rfl ?_⟩)⟩
      simp (maxSteps := 1000000) (disch := first | omega | (simp only [sizeAlloc, sizeDrew, sizeSet, sizePut] <;> omega) | fail) only [GS, TT_eq, TTl, Nat.reduceAdd, Nat.reduceMul, Nat.reduceSub, Nat.reduceDiv, Nat.reduceMod, Nat.reducePow, Nat.reduceEqDiff, ↓reduceIte, reduceCtorEq, Int.reduceToNat, Int.reduceAdd, Int.reduceSub, Int.reduceMul, hk]
      exact hR _ hM1
  · rw [decide_eq_false h]
    rw [if_neg h] at hR
    simp (maxSteps := 1000000) (disch := first | omega | (simp only [sizeAlloc, sizeDrew, sizeSet, sizePut] <;> omega) | fail) only [GS, TT_eq, TTl, Nat.reduceAdd, Nat.reduceMul, Nat.reduceSub, Nat.reduceDiv, Nat.reduceMod, Nat.reducePow, Nat.reduceEqDiff, ↓reduceIte, reduceCtorEq, Int.reduceToNat, Int.reduceAdd, Int.reduceSub, Int.reduceMul]
    exact hR _ hM1
theorem tText_cps (s : List UInt8) (hs : s.length ≤ maxLen) (w : World) (R : Ending → World → Prop) (hR : ∀ w', Mod [] w w' → R (.returned (.tuple #[.string ⟨(textS s).1.toArray⟩, .bool (textS s).2])) w') :
    Calls Tryz.prog 136 #[.string ⟨s.toArray⟩] w R := by
  have hs' := hs
  unfold maxLen at hs
  unfold textS at hR
  refine calls_go 4000 okT Tryz.func136 rfl (rs := [.tmp 2, .tmp 3]) rfl Tryz.ntmps136 (args := [.string ⟨s.toArray⟩]) ?_
  simp (maxSteps := 1000000) (disch := first | omega | (simp only [sizeAlloc, sizeDrew, sizeSet, sizePut] <;> omega) | fail) only [GS, TT_eq, TTl, Nat.reduceAdd, Nat.reduceMul, Nat.reduceSub, Nat.reduceDiv, Nat.reduceMod, Nat.reducePow, Nat.reduceEqDiff, ↓reduceIte, reduceCtorEq, Int.reduceToNat, Int.reduceAdd, Int.reduceSub, Int.reduceMul]
  refine ⟨fok32, tKind_cps s hs' w _ fun w1 hM => .inl ⟨_, rfl, hold_ops okT (rs := [.tmp 2, .tmp 3]) rfl ?_⟩⟩
  have h0 : kindS s ≠ 0 → s.length ≠ 0 := by
    intro h1 h2
    have : s = [] := List.eq_nil_of_length_eq_zero h2
    subst this
    exact h1 (by unfold kindS; rw [if_neg checkS_nil])
  have hk6 : kindS s ≤ 6 := by unfold kindS; split; exact kC_le _; omega
  generalize kindS s = k at hR h0 hk6 ⊢
  by_cases h : k = 1 ∨ k = 2
  · rw [if_pos h] at hR
    have hl := h0 (by omega)
    have hdl : (s.drop 1).length ≤ maxLen := by rw [List.length_drop]; unfold maxLen; omega
    rcases h with rfl | rfl
    · simp (maxSteps := 1000000) (disch := first | omega | (simp only [sizeAlloc, sizeDrew, sizeSet, sizePut] <;> omega) | fail) only [GS, TT_eq, TTl, Nat.reduceAdd, Nat.reduceMul, Nat.reduceSub, Nat.reduceDiv, Nat.reduceMod, Nat.reducePow, Nat.reduceEqDiff, ↓reduceIte, reduceCtorEq, Int.reduceToNat, Int.reduceAdd, Int.reduceSub, Int.reduceMul]
      refine ⟨fok158, oReadText_cps (s.drop 1) 1024 (by omega) hdl _ _ (.inl ⟨_, rfl, hold_ops okT (rs := [.tmp 2, .tmp 3]) rfl ?_⟩)⟩
      unfold rtV
      simp (maxSteps := 1000000) (disch := first | omega | (simp only [sizeAlloc, sizeDrew, sizeSet, sizePut] <;> omega) | fail) only [GS, TT_eq, TTl, Nat.reduceAdd, Nat.reduceMul, Nat.reduceSub, Nat.reduceDiv, Nat.reduceMod, Nat.reducePow, Nat.reduceEqDiff, ↓reduceIte, reduceCtorEq, Int.reduceToNat, Int.reduceAdd, Int.reduceSub, Int.reduceMul]
      exact hR _ hM
    · simp (maxSteps := 1000000) (disch := first | omega | (simp only [sizeAlloc, sizeDrew, sizeSet, sizePut] <;> omega) | fail) only [GS, TT_eq, TTl, Nat.reduceAdd, Nat.reduceMul, Nat.reduceSub, Nat.reduceDiv, Nat.reduceMod, Nat.reducePow, Nat.reduceEqDiff, ↓reduceIte, reduceCtorEq, Int.reduceToNat, Int.reduceAdd, Int.reduceSub, Int.reduceMul]
      refine ⟨fok158, oReadText_cps (s.drop 1) 1024 (by omega) hdl _ _ (.inl ⟨_, rfl, hold_ops okT (rs := [.tmp 2, .tmp 3]) rfl ?_⟩)⟩
      unfold rtV
      simp (maxSteps := 1000000) (disch := first | omega | (simp only [sizeAlloc, sizeDrew, sizeSet, sizePut] <;> omega) | fail) only [GS, TT_eq, TTl, Nat.reduceAdd, Nat.reduceMul, Nat.reduceSub, Nat.reduceDiv, Nat.reduceMod, Nat.reducePow, Nat.reduceEqDiff, ↓reduceIte, reduceCtorEq, Int.reduceToNat, Int.reduceAdd, Int.reduceSub, Int.reduceMul]
      exact hR _ hM
  · rw [if_neg h] at hR
    simp (maxSteps := 1000000) (disch := first | omega | (simp only [sizeAlloc, sizeDrew, sizeSet, sizePut] <;> omega) | fail) only [GS, TT_eq, TTl, Nat.reduceAdd, Nat.reduceMul, Nat.reduceSub, Nat.reduceDiv, Nat.reduceMod, Nat.reducePow, Nat.reduceEqDiff, ↓reduceIte, reduceCtorEq, Int.reduceToNat, Int.reduceAdd, Int.reduceSub, Int.reduceMul]
    exact hR _ hM
theorem parts1_cps (S : List UInt8) (hS : S.length ≤ maxLen) (a b d : Nat) (hab : a ≤ b) (hb : b ≤ S.length) (B1 B2 base : Nat) (hB1 : B1 < base) (hB2 : B2 < base) (hne : B1 ≠ B2) (sv : Value) (xs : List (List UInt8)) (hn : xs.length ≤ 1000000) (w : World) (R : Ending → World → Prop)
    (h1 : w.heap[B1]? = some (.cells #[.string ⟨S.toArray⟩] 9 (0, 0))) (h2 : w.heap[B2]? = some (.cells #[sv] 25 (0, 0))) (hown : w.ownsRow base 9 1 sv xs.length (xs.map strV)) (hbase : base ≤ w.heap.size)
    (hR0 : d ≠ 2 → R (.returned (.tuple #[])) w)
    (hR2 : d = 2 → ∀ sv' w', w'.heap[B2]? = some (.cells #[sv'] 25 (0, 0)) → w'.ownsRow base 9 1 sv' (xs.length + 1) ((xs ++ [cutS S (a, b, d)]).map strV) → Mod (B2 :: sv.ownBlock.toList) w w' → R (.returned (.tuple #[])) w') :
    Calls Tryz.prog 134 #[.int .i64 a, .int .i64 b, .int .i64 d, .pointer (some ⟨B2, 0, none⟩), .pointer (some ⟨B1, 0, none⟩)] w R := by
  unfold maxLen at hS
  refine calls_go 4000 okT Tryz.func134 rfl (rs := []) rfl Tryz.ntmps134 (args := [.int .i64 a, .int .i64 b, .int .i64 d, .pointer (some ⟨B2, 0, none⟩), .pointer (some ⟨B1, 0, none⟩)]) ?_
  by_cases hd : d = 2
  · have hR := hR2 hd
    simp (maxSteps := 1000000) (disch := first | omega | (simp only [sizeAlloc, sizeDrew, sizeSet, sizePut] <;> omega) | fail) only [GS, TT_eq, TTl, Nat.reduceAdd, Nat.reduceMul, Nat.reduceSub, Nat.reduceDiv, Nat.reduceMod, Nat.reducePow, Nat.reduceEqDiff, ↓reduceIte, reduceCtorEq, Int.reduceToNat, Int.reduceAdd, Int.reduceSub, Int.reduceMul]
    refine hold_draw okT (rs := []) rfl [0, 0, 0, 0, 14, 30, 63, 127] [0, 1, 2, 3, 4, 5, 6, 7] (by kernel_rfl) (by kernel_rfl) ?_
    have hM0 := Mod.drewN 1 (Mod.refl [] w)
    have h1' : (w.drewN 1).heap[B1]? = some (.cells #[.string ⟨S.toArray⟩] 9 (0, 0)) := h1
    have h2' : (w.drewN 1).heap[B2]? = some (.cells #[sv] 25 (0, 0)) := h2
    have hown' := ownsRow_mod hown hM0 (by simp)
    have hbase' : base ≤ (w.drewN 1).heap.size := hbase
    generalize w.drewN 1 = w0 at hM0 h1' h2' hown' hbase' ⊢
    have c1 := cellOf (o := 0) h1'
    have c2 := cellOf (o := 0) h2'
    have hc : cutS S (a, b, d) = List.drop a (List.take b S) := by unfold cutS; rw [List.drop_take]
    have hcl := ownsRow_one hown'
    simp (maxSteps := 1000000) (disch := first | omega | (simp only [sizeAlloc, sizeDrew, sizeSet, sizePut] <;> omega) | fail) only [GS, TT_eq, TTl, Nat.reduceAdd, Nat.reduceMul, Nat.reduceSub, Nat.reduceDiv, Nat.reduceMod, Nat.reducePow, Nat.reduceEqDiff, ↓reduceIte, reduceCtorEq, Int.reduceToNat, Int.reduceAdd, Int.reduceSub, Int.reduceMul, c1, c2]
    refine hold_dappendN okT rfl rfl rfl rfl (by decide) base hown' rfl rfl (news := [.string ⟨(List.drop a (List.take b S)).toArray⟩]) rfl (by decide) (by simp [Value.oneCell']) (by simp only; omega) (by unfold maxLen; omega) hbase' fun v' w' hown2 hM2 _ => ⟨?_, hold_dops okT (rs := []) rfl ?_⟩
    · simp (maxSteps := 1000000) only [GS, TT_eq, TTl, Nat.reduceAdd, Nat.reduceMul, Nat.reduceSub, Nat.reduceDiv, Nat.reduceMod, Nat.reducePow, Nat.reduceEqDiff, ↓reduceIte, reduceCtorEq, Int.reduceToNat, Int.reduceAdd, Int.reduceSub, Int.reduceMul]
    have hb2 : ∀ x ∈ sv.ownBlock.toList, base ≤ x := fun x hx => (hown'.lt x (by simpa using hx)).1
    have g2 := hM2.get h2' (fun hx => by have := hb2 _ hx; omega)
    have k2 := cellOf (o := 0) g2
    have f2 := frozenOf (o := 0) g2
    have hcl2 := ownsRow_one hown2
    simp (maxSteps := 1000000) (disch := first | omega | (simp only [sizeAlloc, sizeDrew, sizeSet, sizePut] <;> omega) | fail) only [GS, TT_eq, TTl, Nat.reduceAdd, Nat.reduceMul, Nat.reduceSub, Nat.reduceDiv, Nat.reduceMod, Nat.reducePow, Nat.reduceEqDiff, ↓reduceIte, reduceCtorEq, Int.reduceToNat, Int.reduceAdd, Int.reduceSub, Int.reduceMul, k2, f2, cellsL_one hcl2, hcl2]
    refine hR v' _ (heapSet g2) (ownsRow_mod ?_ ((Mod.refl [B2] w').set (.inl (by simp)) _) (by simpa using hB2)) ?_
    · rw [List.map_append, hc]; exact hown2
    · exact (((hM0.mono (S' := sv.ownBlock.toList) (by simp)).trans hM2 (fun x hx => .inl hx)).mono (fun x hx => List.mem_cons_of_mem _ hx)).set (.inl (by simp)) _
  · have hR := hR0 hd
    simp (maxSteps := 1000000) (disch := first | omega | (simp only [sizeAlloc, sizeDrew, sizeSet, sizePut] <;> omega) | fail) only [GS, TT_eq, TTl, Nat.reduceAdd, Nat.reduceMul, Nat.reduceSub, Nat.reduceDiv, Nat.reduceMod, Nat.reducePow, Nat.reduceEqDiff, ↓reduceIte, reduceCtorEq, Int.reduceToNat, Int.reduceAdd, Int.reduceSub, Int.reduceMul]
    exact hR
theorem check0 {S : List UInt8} (h : checkS S = 0) : (walkS S 16 1 0).2.1 = 0 ∧ (walkS S 16 1 0).1 = S.length ∧ S.length ≤ 16384 ∧ 1 ≤ S.length := by
  unfold checkS at h
  have hr : (readS S).2 = 0 := by
    by_cases h0 : (readS S).2 = 0
    · exact h0
    · rw [if_neg h0] at h; exact absurd h h0
  rw [if_pos hr] at h
  have h2 : (readS S).1 = S.length := by
    by_cases h0 : (readS S).1 = S.length
    · exact h0
    · rw [if_neg h0] at h; exact absurd h (by decide)
  unfold readS at hr h2
  by_cases hw : (walkS S 16 1 0).2.1 = 0
  · rw [if_pos hw] at hr h2
    by_cases h3 : 16384 < (walkS S 16 1 0).1
    · rw [if_pos h3] at hr; exact absurd hr (by decide)
    · rw [if_neg h3] at h2
      simp only at h2
      refine ⟨hw, h2, by omega, ?_⟩
      cases S with
      | nil => exact absurd hw walkS_nil
      | cons c r => simp
  · rw [if_neg hw] at hr; exact absurd hr hw
theorem pS_len (S : List UInt8) (l : List PL) : (pS S l).length ≤ l.length := by
  unfold pS; rw [List.length_map]; exact List.length_filter_le _ _
theorem pS_snoc (S : List UInt8) (l : List PL) (p : PL) : pS S (l ++ [p]) = if p.2.2 = 2 then pS S l ++ [cutS S p] else pS S l := by
  unfold pS; rw [List.filter_append]
  by_cases h : p.2.2 = 2 <;> simp [h]
theorem partsS_len (S : List UInt8) : (partsS S).length ≤ S.length := by
  have h1 := (walkS_cnt S 16 1 0 (by omega)).2
  have h2 := pS_len S (walkS S 16 1 0).2.2
  unfold partsS; omega
/-- What a walk has left that tells its places to Parts. -/
def TellP (S : List UInt8) (w0 : World) (l : List PL) (w' : World) : Prop :=
  ∃ sv, w'.heap[w0.heap.size]? = some (.cells #[.string ⟨S.toArray⟩] 9 (0, 0)) ∧ w'.heap[w0.heap.size + 1]? = some (.cells #[sv] 25 (0, 0)) ∧
    w'.ownsRow (w0.heap.size + 2) 9 1 sv (pS S l).length ((pS S l).map strV) ∧ Mod [] w0 w' ∧ w0.heap.size + 2 ≤ w'.heap.size
theorem TellP.mod {S : List UInt8} {w0 : World} {l : List PL} {w w' : World} (h : TellP S w0 l w) (hM : Mod [] w w') : TellP S w0 l w' := by
  obtain ⟨sv, h1, h2, h3, h4, h5⟩ := h
  exact ⟨sv, hM.get h1 (by simp), hM.get h2 (by simp), ownsRow_mod h3 hM (by simp), h4.trans hM (by simp), by have := hM.size; omega⟩
theorem tParts_cps (S : List UInt8) (hS : S.length ≤ maxLen) (w : World) (R : Ending → World → Prop) (hR0 : checkS S ≠ 0 → ∀ w', Mod [] w w' → R (.returned (.tuple #[.slice none 0 0, .bool false])) w')
    (hR : checkS S = 0 → ∀ sv w', w'.ownsRow w.heap.size 9 1 sv (partsS S).length ((partsS S).map strV) → Mod [] w w' → R (.returned (.tuple #[sv, .bool true])) w') :
    Calls Tryz.prog 92 #[.string ⟨S.toArray⟩] w R := by
  refine calls_go 4000 okT Tryz.func92 rfl (rs := [.cell 2 25, .tmp 3]) rfl Tryz.ntmps92 (args := [.string ⟨S.toArray⟩]) ?_
  simp (maxSteps := 1000000) (disch := first | omega | (simp only [sizeAlloc, sizeDrew, sizeSet, sizePut] <;> omega) | fail) only [GS, TT_eq, TTl, Nat.reduceAdd, Nat.reduceMul, Nat.reduceSub, Nat.reduceDiv, Nat.reduceMod, Nat.reducePow, Nat.reduceEqDiff, ↓reduceIte, reduceCtorEq, Int.reduceToNat, Int.reduceAdd, Int.reduceSub, Int.reduceMul]
  have hb1 : ((w.alloc (.cells #[.string ⟨S.toArray⟩] 9)).alloc (.cells #[.slice none 0 0] 25)).heap[w.heap.size]? = some (.cells #[.string ⟨S.toArray⟩] 9 (0, 0)) := by (simp only [heapA, sizeAlloc]; repeat (first | rfl | rw [if_neg (by omega)] | rw [if_pos (by omega)]))
  have hb2 : ((w.alloc (.cells #[.string ⟨S.toArray⟩] 9)).alloc (.cells #[.slice none 0 0] 25)).heap[w.heap.size + 1]? = some (.cells #[.slice none 0 0] 25 (0, 0)) := by (simp only [heapA, sizeAlloc]; repeat (first | rfl | rw [if_neg (by omega)] | rw [if_pos (by omega)]))
  have hM0 := ((Mod.refl [] w).alloc (.cells #[.string ⟨S.toArray⟩] 9)).alloc (.cells #[.slice none 0 0] 25)
  have hz0 : ((w.alloc (.cells #[.string ⟨S.toArray⟩] 9)).alloc (.cells #[.slice none 0 0] 25)).heap.size = w.heap.size + 2 := by simp only [sizeAlloc]
  have hT0 : TellP S w [] ((w.alloc (.cells #[.string ⟨S.toArray⟩] 9)).alloc (.cells #[.slice none 0 0] 25)) := ⟨_, hb1, hb2, World.ownsRow_nil _ _ _ _, hM0, by omega⟩
  have hsz : (w.alloc (.cells #[.string ⟨S.toArray⟩] 9)).heap.size = w.heap.size + 1 := by simp only [sizeAlloc]
  generalize (w.alloc (.cells #[.string ⟨S.toArray⟩] 9)).alloc (.cells #[.slice none 0 0] 25) = w1 at hb1 hb2 hM0 hT0 hz0 ⊢
  refine ⟨fok68, tIs1_cps S hS w1 _ (by omega) _ fun w2 hM => .inl ⟨_, rfl, hold_ops okT (rs := [.cell 2 25, .tmp 3]) rfl ?_⟩⟩
  have hM2 := ((Mod.refl [] w1).alloc _).trans hM (by simp)
  have hT2 := hT0.mod hM2
  have g1 := hM2.get hb1 (by simp)
  have g2 := hM2.get hb2 (by simp)
  have c1 := cellOf (o := 0) g1
  have c2 := cellOf (o := 0) g2
  have f2 := frozenOf (o := 0) g2
  by_cases h : checkS S = 0
  · rw [decide_eq_true h]
    have hR := hR h
    obtain ⟨h1, h2, h3, h4⟩ := check0 h
    have hcnt := (walkS_cnt S 16 1 0 (by omega)).2
    simp (maxSteps := 1000000) (disch := first | omega | (simp only [sizeAlloc, sizeDrew, sizeSet, sizePut] <;> omega) | fail) only [GS, TT_eq, TTl, Nat.reduceAdd, Nat.reduceMul, Nat.reduceSub, Nat.reduceDiv, Nat.reduceMod, Nat.reducePow, Nat.reduceEqDiff, ↓reduceIte, reduceCtorEq, Int.reduceToNat, Int.reduceAdd, Int.reduceSub, Int.reduceMul, hsz, c1]
    refine ⟨fok133, tWalk_cps S hS 134 #[.pointer (some ⟨w.heap.size + 1, 0, none⟩), .pointer (some ⟨w.heap.size, 0, none⟩)] fok134 (TellP S w) (fun _ _ _ h hM => h.mod hM) (walkS S 16 1 0).2.2 (fun l a b d w' R' hLt hab hb _ ht hR' => ?_) 16 1 0 [] _ _ (by omega) (by omega) ⟨[], by simp⟩ hT2 fun w3 hT3 => ?_⟩
    · obtain ⟨sv, k1, k2, k3, k4, k5⟩ := ht
      have hll : l.length ≤ S.length := by
        obtain ⟨r, hr⟩ := hLt
        have := congrArg List.length hr
        rw [List.length_append] at this; omega
      have hpl := pS_len S l
      refine parts1_cps S hS a b d hab hb w.heap.size (w.heap.size + 1) (w.heap.size + 2) (by omega) (by omega) (by omega) sv (pS S l) (by omega) w' R' k1 k2 k3 k5 (fun hd => hR' _ ?_) (fun hd sv' w'' q1 q2 q3 => hR' _ ?_)
      · exact ⟨sv, k1, k2, by rw [pS_snoc, if_neg hd]; exact k3, k4, k5⟩
      · have hob : ∀ x ∈ sv.ownBlock.toList, w.heap.size + 2 ≤ x := fun x hx => (k3.lt x (by simpa using hx)).1
        refine ⟨sv', q3.get k1 (by intro hx; simp only [List.mem_cons] at hx; rcases hx with hx | hx; omega; have := hob _ hx; omega), q1, ?_, k4.trans q3 (fun x hx => .inr ?_), by have := q3.size; omega⟩
        · rw [pS_snoc, if_pos hd, List.length_append]; exact q2
        · simp only [List.mem_cons] at hx; rcases hx with hx | hx; omega; have := hob _ hx; omega
    · unfold wkE
      rw [if_pos h1]
      refine .inl ⟨_, rfl, hold_ops okT (rs := [.cell 2 25, .tmp 3]) rfl ?_⟩
      obtain ⟨sv, k1, k2, k3, k4, k5⟩ := hT3
      have c3 := cellOf (o := 0) k2
      have f3 := frozenOf (o := 0) k2
      have ho3 := ownsRow_one k3
      rw [List.nil_append] at k3
      simp (maxSteps := 1000000) (disch := first | omega | (simp only [sizeAlloc, sizeDrew, sizeSet, sizePut] <;> omega) | fail) only [GS, TT_eq, TTl, Nat.reduceAdd, Nat.reduceMul, Nat.reduceSub, Nat.reduceDiv, Nat.reduceMod, Nat.reducePow, Nat.reduceEqDiff, ↓reduceIte, reduceCtorEq, Int.reduceToNat, Int.reduceAdd, Int.reduceSub, Int.reduceMul, c3, f3, cellsL_one ho3, ho3, leaveW, loadW]
      refine ⟨sv, rfl, hR sv _ (ownsRow_base (ownsRow_mod k3 ((Mod.refl [w.heap.size + 1] w3).set (.inl (by simp)) _) (by simp)) (by omega)) (k4.set (.inr (by simp)) _)⟩
  · rw [decide_eq_false h]
    simp (maxSteps := 1000000) (disch := first | omega | (simp only [sizeAlloc, sizeDrew, sizeSet, sizePut] <;> omega) | fail) only [GS, TT_eq, TTl, Nat.reduceAdd, Nat.reduceMul, Nat.reduceSub, Nat.reduceDiv, Nat.reduceMod, Nat.reducePow, Nat.reduceEqDiff, ↓reduceIte, reduceCtorEq, Int.reduceToNat, Int.reduceAdd, Int.reduceSub, Int.reduceMul, c2, f2, hsz, leaveW, loadW]
    exact ⟨_, rfl, hR0 h _ ((hM0.trans hM2 (by simp)).set (.inr (by simp)) _)⟩
/-- Terms side by side: the head of the first one, its parts, the others. -/
inductive Fr where
  | nil
  | cons (h : List UInt8) (k r : Fr)
def encF : Fr → List UInt8
  | .nil => []
  | .cons h k r => h ++ encF k ++ encF r
def cntF : Fr → Nat
  | .nil => 0
  | .cons _ _ r => cntF r + 1
def hgtF : Fr → Nat
  | .nil => 0
  | .cons _ k r => max (hgtF k + 1) (hgtF r)
def okF : Fr → Prop
  | .nil => True
  | .cons h k r => Hd h (cntF k) ∧ okF k ∧ okF r
/-- Places, as they end; as they begin. -/
def endF : Fr → Nat → Nat → List PL
  | .nil, _, _ => []
  | .cons h k r, p, d => endF k (p + h.length) (d + 1) ++ (p, p + h.length + (encF k).length, d) :: endF r (p + h.length + (encF k).length) d
theorem walk_of (S : List UInt8) : ∀ (F : Fr) (f d p : Nat), okF F → hgtF F ≤ f → (∃ rest, S.drop p = encF F ++ rest) → kidsW (walkS S f d) (cntF F) p = (p + (encF F).length, 0, endF F p d)
  | .nil, f, d, p, _, _, _ => by simp [kidsW, cntF, encF, endF]
  | .cons h k r, f, d, p, hok, hh, ⟨rest, hr⟩ => by
    obtain ⟨h1, h2, h3⟩ := hok
    simp only [hgtF] at hh
    obtain ⟨f, rfl⟩ : ∃ g, f = g + 1 := ⟨f - 1, by omega⟩
    simp only [encF, List.append_assoc] at hr
    have hfr : frontS (S.drop p) = (h.length, cntF k, 0) := by rw [hr]; exact front_of h1 _
    have hk := walk_of S k f (d + 1) (p + h.length) h2 (by omega) ⟨encF r ++ rest, by rw [← List.drop_drop, hr, List.drop_left]⟩
    have hw : walkS S (f + 1) d p = (p + h.length + (encF k).length, 0, endF k (p + h.length) (d + 1) ++ [(p, p + h.length + (encF k).length, d)]) := by
      simp only [walkS, hfr, if_true, hk]
    have hrr := walk_of S r (f + 1) d (p + h.length + (encF k).length) h3 (by omega) ⟨rest, by rw [Nat.add_assoc, ← List.drop_drop, hr, ← List.append_assoc, ← List.append_assoc, List.append_assoc, List.drop_left' (by rw [List.length_append])]⟩
    simp only [cntF, kidsW, hw, if_true, hrr, encF, endF, List.length_append]
    refine Prod.ext (by simp only; omega) (Prod.ext rfl ?_)
    simp
theorem walk_is (S : List UInt8) : ∀ (f d : Nat),
    (∀ (n p : Nat), (kidsW (walkS S f d) n p).2.1 = 0 → ∃ F rest, okF F ∧ hgtF F ≤ f ∧ cntF F = n ∧ S.drop p = encF F ++ rest)
  | f, d, 0, p, _ => ⟨.nil, S.drop p, trivial, Nat.zero_le _, rfl, rfl⟩
  | 0, d, n + 1, p, h => by simp [kidsW, walkS] at h
  | f + 1, d, n + 1, p, h => by
    simp only [kidsW] at h
    by_cases h0 : (walkS S (f + 1) d p).2.1 = 0
    · rw [if_pos h0] at h
      have hw := h0
      simp only [walkS] at hw
      by_cases h1 : (frontS (S.drop p)).2.2 = 0
      · rw [if_pos h1] at hw
        by_cases h2 : (kidsW (walkS S f (d + 1)) (frontS (S.drop p)).2.1 (p + (frontS (S.drop p)).1)).2.1 = 0
        · obtain ⟨K, rest, k1, k2, k3, k4⟩ := walk_is S f (d + 1) _ _ h2
          obtain ⟨hd, rest2, e1, e2, e3⟩ := front_is (s := S.drop p) (n := (frontS (S.drop p)).1) (k := (frontS (S.drop p)).2.1) (by rw [← h1])
          rw [← List.drop_drop, e2, e1, List.drop_left] at k4
          have hone := walk_of S (.cons hd K .nil) (f + 1) d p ⟨by rw [k3]; exact e3, k1, trivial⟩ (by simp only [hgtF]; omega) ⟨rest, by rw [e1, k4]; simp [encF]⟩
          simp only [cntF, kidsW] at hone
          rw [if_pos h0] at hone
          simp only [Prod.mk.injEq] at hone
          rw [hone.1] at h
          obtain ⟨R, rest3, r1, r2, r3, r4⟩ := walk_is S (f + 1) d n _ h
          refine ⟨.cons hd K R, rest3, ⟨by rw [k3]; exact e3, k1, r1⟩, by simp only [hgtF]; omega, by simp only [cntF]; omega, ?_⟩
          simp only [encF, List.append_nil] at r4 ⊢
          rw [← List.drop_drop, e1, k4, ← List.append_assoc, List.drop_left] at r4
          rw [e1, k4, r4]
          simp
        · rw [if_neg h2] at hw; exact absurd hw h2
      · rw [if_neg h1] at hw; exact absurd hw h1
    · rw [if_neg h0] at h; exact absurd h h0
/-- What stands ahead decides which trees they are. -/
theorem encF_inj : ∀ (F G : Fr) (x y : List UInt8), okF F → okF G → cntF F = cntF G → encF F ++ x = encF G ++ y → F = G ∧ x = y
  | .nil, .nil, x, y, _, _, _, e => ⟨rfl, by simpa [encF] using e⟩
  | .nil, .cons _ _ _, _, _, _, _, h, _ => by simp [cntF] at h
  | .cons _ _ _, .nil, _, _, _, _, h, _ => by simp [cntF] at h
  | .cons h k r, .cons h' k' r', x, y, ⟨a1, a2, a3⟩, ⟨b1, b2, b3⟩, hc, e => by
    simp only [encF, List.append_assoc] at e
    obtain ⟨rfl, e1, hk⟩ := a1.eq b1 e
    obtain ⟨rfl, e2⟩ := encF_inj k k' _ _ a2 b2 hk e1
    obtain ⟨rfl, e3⟩ := encF_inj r r' x y a3 b3 (by simpa [cntF] using hc) e2
    exact ⟨rfl, e3⟩
/-- A text that is a term, as a tree. -/
def Tr (S h : List UInt8) (k : Fr) : Prop := S = h ++ encF k ∧ Hd h (cntF k) ∧ okF k ∧ hgtF k ≤ 15 ∧ S.length ≤ 16384
theorem Tr.walk {S h : List UInt8} {k : Fr} (t : Tr S h k) : walkS S 16 1 0 = (S.length, 0, endF k h.length 2 ++ [(0, S.length, 1)]) := by
  obtain ⟨rfl, t1, t2, t3, t4⟩ := t
  have := walk_of (h ++ encF k) (.cons h k .nil) 16 1 0 ⟨t1, t2, trivial⟩ (by simp only [hgtF]; omega) ⟨[], by simp [encF]⟩
  simp only [cntF, kidsW, encF, endF, List.append_nil] at this
  by_cases h0 : (walkS (h ++ encF k) 16 1 0).2.1 = 0
  · rw [if_pos h0] at this
    simp only [Prod.mk.injEq, Nat.zero_add, List.append_nil] at this
    refine Prod.ext (by rw [this.1]) (Prod.ext h0 ?_)
    rw [this.2.2]
    simp
  · rw [if_neg h0] at this
    simp only [Prod.mk.injEq] at this
    exact absurd this.2.1 h0
theorem Tr.ok {S h : List UInt8} {k : Fr} (t : Tr S h k) : checkS S = 0 := by
  unfold checkS readS
  rw [t.walk]
  have h : ¬ 16384 < S.length := by have := t.2.2.2.2; omega
  simp [h]
theorem tr_of {S : List UInt8} (hS : checkS S = 0) : ∃ h k, Tr S h k := by
  unfold checkS at hS
  have hr : (readS S).2 = 0 := by
    by_cases h0 : (readS S).2 = 0
    · exact h0
    · rw [if_neg h0] at hS; exact absurd hS h0
  rw [if_pos hr] at hS
  have h2 : (readS S).1 = S.length := by
    by_cases h0 : (readS S).1 = S.length
    · exact h0
    · rw [if_neg h0] at hS; exact absurd hS (by decide)
  unfold readS at hr h2
  by_cases hw : (walkS S 16 1 0).2.1 = 0
  · rw [if_pos hw] at hr h2
    by_cases h3 : 16384 < (walkS S 16 1 0).1
    · rw [if_pos h3] at hr; exact absurd hr (by decide)
    · rw [if_neg h3] at h2
      simp only at h2
      obtain ⟨F, rest, f1, f2, f3, f4⟩ := walk_is S 16 1 1 0 (by simp only [kidsW]; rw [if_pos hw])
      cases F with
      | nil => simp [cntF] at f3
      | cons h k r =>
        cases r with
        | cons _ _ _ => simp [cntF] at f3
        | nil =>
          obtain ⟨g1, g2, _⟩ := f1
          have hwk := walk_of S (.cons h k .nil) 16 1 0 ⟨g1, g2, trivial⟩ f2 ⟨rest, f4⟩
          simp only [cntF, kidsW] at hwk
          rw [if_pos hw] at hwk
          simp only [Prod.mk.injEq] at hwk
          have hl := hwk.1
          rw [h2] at hl
          simp only [List.drop_zero] at f4
          have hr0 : rest = [] := by
            have := congrArg List.length f4
            rw [List.length_append] at this
            exact List.eq_nil_of_length_eq_zero (by omega)
          subst hr0
          refine ⟨h, k, by rw [f4]; simp [encF], g1, g2, by simp only [hgtF] at f2; omega, by omega⟩
  · rw [if_neg hw] at hr; exact absurd hr hw
theorem Tr.eq {S h h' : List UInt8} {k k' : Fr} (t : Tr S h k) (t' : Tr S h' k') : h = h' ∧ k = k' := by
  obtain ⟨e, a1, a2, _, _⟩ := t
  obtain ⟨e', b1, b2, _, _⟩ := t'
  obtain ⟨rfl, e2, hk⟩ := a1.eq b1 (e.symm.trans e')
  obtain ⟨rfl, _⟩ := encF_inj k k' [] [] a2 b2 hk (by simpa using e2)
  exact ⟨rfl, rfl⟩
def rootsF : Fr → List (List UInt8)
  | .nil => []
  | .cons h k r => (h ++ encF k) :: rootsF r
theorem roots_flat : ∀ F, (rootsF F).flatten = encF F
  | .nil => rfl
  | .cons h k r => by simp [rootsF, encF, roots_flat r]
theorem roots_cnt : ∀ F, (rootsF F).length = cntF F
  | .nil => rfl
  | .cons h k r => by simp [rootsF, cntF, roots_cnt r]
theorem cnt0 {F : Fr} (h : cntF F = 0) : F = .nil := by
  cases F with
  | nil => rfl
  | cons _ _ _ => simp [cntF] at h
theorem end_deep : ∀ (F : Fr) (p d' d : Nat), d < d' → (endF F p d').filter (fun q => decide (q.2.2 = d)) = []
  | .nil, _, _, _, _ => rfl
  | .cons h k r, p, d', d, hd => by
    simp only [endF, List.filter_append, List.filter_cons]
    rw [end_deep k _ (d' + 1) d (by omega), end_deep r _ d' d hd]
    rw [if_neg (by simp; omega)]
    rfl
theorem cut_of {S x rest : List UInt8} {p q d : Nat} (h : S.drop p = x ++ rest) (hq : q = p + x.length) : cutS S (p, q, d) = x := by
  unfold cutS
  simp only
  rw [h, hq, Nat.add_sub_cancel_left, List.take_left']
  rfl
theorem end_roots (S : List UInt8) : ∀ (F : Fr) (p : Nat), (∃ rest, S.drop p = encF F ++ rest) → pS S (endF F p 2) = rootsF F
  | .nil, p, _ => rfl
  | .cons h k r, p, ⟨rest, hr⟩ => by
    simp only [encF, List.append_assoc] at hr
    have h1 := end_deep k (p + h.length) 3 2 (by omega)
    have h2 := end_roots S r (p + h.length + (encF k).length) ⟨rest, by rw [Nat.add_assoc, ← List.drop_drop, hr, ← List.append_assoc, List.drop_left' (by rw [List.length_append])]⟩
    unfold pS at h2 ⊢
    simp only [endF, List.filter_append, List.filter_cons]
    rw [h1, if_pos (by simp), List.nil_append, List.map_cons, h2, rootsF, cut_of (x := h ++ encF k) (rest := encF r ++ rest) (by rw [hr]; simp) (by rw [List.length_append]; omega)]
theorem Tr.parts {S h : List UInt8} {k : Fr} (t : Tr S h k) : partsS S = rootsF k := by
  unfold partsS
  rw [t.walk]
  simp only
  rw [pS_snoc, if_neg (by simp), end_roots S k h.length ⟨[], by rw [t.1, List.drop_left]; simp⟩]
theorem Tr.pos {S h : List UInt8} {k : Fr} (t : Tr S h k) : 1 ≤ S.length := by
  rw [t.1, List.length_append]; have := t.2.1.pos; omega
/-- Texts that are terms, side by side. -/
theorem forest_of : ∀ (l : List (List UInt8)), allS l = true → ∃ K, okF K ∧ rootsF K = l ∧ hgtF K ≤ 16
  | [], _ => ⟨.nil, trivial, rfl, Nat.zero_le _⟩
  | s :: l, h => by
    have hs : checkS s = 0 ∧ allS l = true := by unfold allS at h ⊢; simpa using h
    obtain ⟨K, k1, k2, k3⟩ := forest_of l hs.2
    obtain ⟨hd, k, t⟩ := tr_of hs.1
    obtain ⟨e, t1, t2, t3, t4⟩ := t
    exact ⟨.cons hd k K, ⟨t1, t2, k1⟩, by simp only [rootsF, k2, e], by simp only [hgtF]; omega⟩
theorem join_short : ∀ (l : List (List UInt8)) (s : List UInt8), (joinS s l).length ≤ 16384 → joinS s l = s ++ l.flatten
  | [], s, _ => by simp [joinS]
  | x :: l, s, h => by
    by_cases hs : s.length ≤ 16384
    · rw [joinS, if_pos hs] at h ⊢
      rw [join_short l _ h]; simp
    · rw [joinS, if_neg hs] at h; omega
theorem join_fits : ∀ (l : List (List UInt8)) (s : List UInt8), (s ++ l.flatten).length ≤ 16384 → joinS s l = s ++ l.flatten
  | [], s, _ => by simp [joinS]
  | x :: l, s, h => by
    have hs : s.length ≤ 16384 := by rw [List.length_append] at h; omega
    rw [joinS, if_pos hs, join_fits l (s ++ x) (by simpa using h)]
    simp
theorem made_is {front : List UInt8} {l : List (List UInt8)} (hf : Hd front l.length) {x : List UInt8} (h : madeS front l = (x, 0)) : ∃ K, Tr x front K ∧ rootsF K = l := by
  unfold madeS at h
  by_cases ha : allS l = true
  · rw [if_pos ha] at h
    by_cases hc : checkS (joinS front l) = 0
    · rw [if_pos hc] at h
      simp only [Prod.mk.injEq, and_true] at h
      rw [h] at hc
      obtain ⟨K, k1, k2, k3⟩ := forest_of l ha
      obtain ⟨hd, k, t⟩ := tr_of hc
      have hj := join_short l front (by rw [h]; exact t.2.2.2.2)
      rw [h] at hj
      have hcnt : cntF K = l.length := by rw [← roots_cnt, k2]
      obtain ⟨e, t1, t2, t3, t4⟩ := id t
      rw [hj, ← k2, roots_flat] at e
      obtain ⟨rfl, e2, hk⟩ := hf.eq t1 e
      obtain ⟨rfl, _⟩ := encF_inj K k [] [] k1 t2 (by omega) (by simpa using e2)
      exact ⟨K, t, k2⟩
    · rw [if_neg hc] at h; simp at h
  · rw [if_neg ha] at h; simp at h
theorem Tr.root {S h : List UInt8} {k : Fr} (t : Tr S h k) : ∀ x ∈ rootsF k, checkS x = 0 := by
  obtain ⟨e, t1, t2, t3, t4⟩ := t
  have hl : (encF k).length ≤ 16384 := by have := congrArg List.length e; rw [List.length_append] at this; omega
  clear e t1 t4
  have key : ∀ k : Fr, okF k → hgtF k ≤ 15 → (encF k).length ≤ 16384 → ∀ x ∈ rootsF k, checkS x = 0 := by
    intro k
    induction k with
    | nil => intro _ _ _ x hx; simp [rootsF] at hx
    | cons h k r ihk ihr =>
      intro ⟨a1, a2, a3⟩ hh hl x hx
      simp only [hgtF] at hh
      simp only [encF, List.length_append] at hl
      simp only [rootsF, List.mem_cons] at hx
      rcases hx with rfl | hx
      · exact Tr.ok (h := h) (k := k) ⟨rfl, a1, a2, by omega, by rw [List.length_append]; omega⟩
      · exact ihr a3 (by omega) (by omega) x hx
  exact key k t2 t3 hl
theorem Tr.made {S h : List UInt8} {k : Fr} (t : Tr S h k) : madeS h (rootsF k) = (S, 0) := by
  have ha : allS (rootsF k) = true := by unfold allS; rw [List.all_eq_true]; intro x hx; simp [t.root x hx]
  unfold madeS
  rw [if_pos ha, join_fits _ _ (by rw [roots_flat, ← t.1]; exact t.2.2.2.2), roots_flat, ← t.1, if_pos t.ok]
theorem row_short {n : Nat} {rest : List UInt8} (hn : n < 18446744073709551616) (h : checkS (114 :: numL n ++ rest) = 0) : n ≤ 32 := by
  obtain ⟨hd, k, t⟩ := tr_of h
  have h1 := front_of t.2.1 (encF k)
  rw [← t.1] at h1
  simp only [List.cons_append, frontS] at h1
  rw [if_neg (by decide), if_neg (by decide), if_pos (by decide), readNum_of n hn rest] at h1
  simp only [true_and] at h1
  split at h1
  · simp at h1
  · omega
theorem rowMade_is {l : List (List UInt8)} (hl : l.length ≤ 9223372036854775807) {x : List UInt8} (h : madeS (114 :: numL l.length) l = (x, 0)) : ∃ K, Tr x (114 :: numL l.length) K ∧ rootsF K = l := by
  have hx : checkS x = 0 ∧ x = (114 :: numL l.length) ++ l.flatten := by
    unfold madeS at h
    split at h
    · split at h
      · rename_i hc
        simp only [Prod.mk.injEq, and_true] at h
        rw [h] at hc
        refine ⟨hc, ?_⟩
        rw [← h]
        exact join_short _ _ (by rw [h]; exact (check0 hc).2.2.1)
      · simp at h
    · simp at h
  have := row_short (n := l.length) (rest := l.flatten) (by omega) (by rw [← hx.2]; exact hx.1)
  exact made_is (.inr (.inr (.inl ⟨this, rfl⟩))) h
theorem made_ok {front : List UInt8} {l : List (List UInt8)} {x : List UInt8} (h : madeS front l = (x, 0)) : checkS x = 0 := by
  unfold madeS at h
  split at h
  · split at h
    · rename_i hc
      simp only [Prod.mk.injEq, and_true] at h
      rw [h] at hc; exact hc
    · simp at h
  · simp at h
theorem len2 {α : Type} {l : List α} (h : l.length = 2) : ∃ a b, l = [a, b] := by
  match l, h with
  | [a, b], _ => exact ⟨a, b, rfl⟩
theorem len3 {α : Type} {l : List α} (h : l.length = 3) : ∃ a b c, l = [a, b, c] := by
  match l, h with
  | [a, b, c], _ => exact ⟨a, b, c, rfl⟩
/-- Which kinds there are, and what they are made of again. -/
theorem opens_plain {t : List UInt8} (h : checkS t = 0) :
    (kindS t = 1 ∧ partsS t = [] ∧ ∃ s, textS t = (s, true) ∧ dataS s = (t, 0)) ∨
    (kindS t = 2 ∧ partsS t = [] ∧ ∃ s, textS t = (s, true) ∧ atomS s = (t, 0)) ∨
    (kindS t = 3 ∧ textS t = ([], false) ∧ madeS (114 :: numL (partsS t).length) (partsS t) = (t, 0)) ∨
    (kindS t = 4 ∧ textS t = ([], false) ∧ ∃ a, partsS t = [a] ∧ madeS [104] [a] = (t, 0)) ∨
    (kindS t = 5 ∧ textS t = ([], false) ∧ ∃ a b, partsS t = [a, b] ∧ madeS [109] [a, b] = (t, 0)) ∨
    (kindS t = 6 ∧ textS t = ([], false) ∧ ∃ a b c, partsS t = [a, b, c] ∧ madeS [115] [a, b, c] = (t, 0)) := by
  obtain ⟨hd, k, tr⟩ := tr_of h
  have hp := tr.parts
  have hm := tr.made
  have hcnt := roots_cnt k
  rw [← hp] at hm hcnt
  have hk : kindS t = kC (t.headD 0) := by unfold kindS; rw [if_pos h]
  have ht := tr.1
  rcases tr.2.1 with ⟨h0, s, hs, rfl⟩ | ⟨h0, s, hs, hn, rfl⟩ | ⟨h32, rfl⟩ | ⟨h1, rfl⟩ | ⟨h1, rfl⟩ | ⟨h1, rfl⟩
  · have := cnt0 h0
    subst this
    simp only [encF, List.append_nil] at ht
    have hk1 : kindS t = 1 := by rw [hk, ht]; rfl
    refine .inl ⟨hk1, by rw [hp]; rfl, s, ?_, ?_⟩
    · unfold textS
      rw [if_pos (.inl hk1), ht, List.drop_succ_cons, List.drop_zero]
      have := readText_of s 1024 hs (by omega) []
      rw [List.append_nil] at this
      rw [this]
    · unfold dataS; rw [if_neg (by omega), ht]
  · have := cnt0 h0
    subst this
    simp only [encF, List.append_nil] at ht
    have hk1 : kindS t = 2 := by rw [hk, ht]; rfl
    refine .inr (.inl ⟨hk1, by rw [hp]; rfl, s, ?_, ?_⟩)
    · unfold textS
      rw [if_pos (.inr hk1), ht, List.drop_succ_cons, List.drop_zero]
      have := readText_of s 1024 (by omega) (by omega) []
      rw [List.append_nil] at this
      rw [this]
    · unfold atomS; rw [if_neg (by omega), if_pos hn, ht]
  · have hk1 : kindS t = 3 := by rw [hk, ht]; rfl
    refine .inr (.inr (.inl ⟨hk1, by unfold textS; rw [if_neg (by omega)], ?_⟩))
    rw [hcnt]; exact hm
  · have hk1 : kindS t = 4 := by rw [hk, ht]; rfl
    refine .inr (.inr (.inr (.inl ⟨hk1, by unfold textS; rw [if_neg (by omega)], ?_⟩)))
    rw [h1] at hcnt
    obtain ⟨a, ha⟩ := List.length_eq_one_iff.1 hcnt
    exact ⟨a, ha, by rw [← ha]; exact hm⟩
  · have hk1 : kindS t = 5 := by rw [hk, ht]; rfl
    refine .inr (.inr (.inr (.inr (.inl ⟨hk1, by unfold textS; rw [if_neg (by omega)], ?_⟩))))
    rw [h1] at hcnt
    obtain ⟨a, b, ha⟩ := len2 hcnt
    exact ⟨a, b, ha, by rw [← ha]; exact hm⟩
  · have hk1 : kindS t = 6 := by rw [hk, ht]; rfl
    refine .inr (.inr (.inr (.inr (.inr ⟨hk1, by unfold textS; rw [if_neg (by omega)], ?_⟩))))
    rw [h1] at hcnt
    obtain ⟨a, b, c, ha⟩ := len3 hcnt
    exact ⟨a, b, c, ha, by rw [← ha]; exact hm⟩
end Go.Proofs.YtdflchgfhmjhbaaGreatDoor
