/-
  wire.untxn (walk).
-/
import Derived.Test.YtpcilobbohokcaaWir5
import Derived.Test.YtpcilobbohokcaaTrp
set_option linter.unusedSimpArgs false
set_option linter.unusedVariables false
namespace Go.Proofs.Ytpcilobbohokcaa
open Go Go.Wk Go.RowKit
attribute [local irreducible] go Hold
open Go.Lib
def untxO (S : List UInt8) : Option Tx := match rowO S 3 3 with
  | some l => (match numT (l.getD 0 []), numT (l.getD 1 []), numT (l.getD 2 []) with
    | some a, some b, some c => if txB ((a : Int), (b : Int), (c : Int)) = true then some ((a : Int), (b : Int), (c : Int)) else none
    | _, _, _ => none)
  | none => none
theorem st3 {w : World} {p t : Nat} {a b c x y z : Value} (h : w.heap[p]? = some (.cells #[a, b, c] t)) : (((w.setCell ⟨p, 0, none⟩ x).setCell ⟨p, 1, none⟩ y).setCell ⟨p, 2, none⟩ z).heap[p]? = some (.cells #[x, y, z] t) := by
  rw [heapSet (heapSet (heapSet h))]; rfl
theorem cellM {w w' : World} {b o : Nat} {v : Value} (h : w.cell? ⟨b, o, none⟩ = some v) (hm : Mod [] w w') : w'.cell? ⟨b, o, none⟩ = some v := by
  rw [World.cell?_of_block (w := w) (hm.block b (World.block_lt_of_cell? w _ h) (by simp))]
  exact h
set_option maxRecDepth 20000 in
set_option maxHeartbeats 8000000 in
theorem wUntxn_cps (S : List UInt8) (hS : S.length ≤ maxLen) (w : World) (R : Ending → World → Prop) (h1 : ∀ x w', untxO S = some x → Mod [] w w' → R (.returned (txV x)) w') (h0 : untxO S = none → ∀ w', Mod [] w w' → R (.panicked wnoneV) w') :
    Calls Try.prog 96 #[.string ⟨S.toArray⟩] w R := by
  generalize hX : untxO S = X at h1 h0
  unfold untxO at hX
  refine calls_go 4000 okT Try.func96 rfl (rs := [.cell 2 23]) rfl Try.ntmps96 (args := [.string ⟨S.toArray⟩]) ?_
  simp (config := { maxSteps := 1000000 }) (disch := first | omega | (simp only [sizeAlloc, sizeDrew, sizeSet, sizePut] <;> omega) | fail) only [GS1, GS2, GS3, GS4, GS5, GS6, GS7, GS8, GS9, GS10, GS11, TT_eq, TTl, Nat.reduceAdd, Nat.reduceMul, Nat.reduceSub, Nat.reduceDiv, Nat.reduceMod, Nat.reducePow, Nat.reduceEqDiff, ↓reduceIte, reduceCtorEq, true_and, and_true, and_self, false_and, and_false, Int.reduceToNat, Int.reduceAdd, Int.reduceSub, Int.reduceMul, cond_true, cond_false, List.toList_toArray, Option.map_some, Option.map_none, Option.some.injEq, List.cons_append, List.nil_append, List.length_cons, List.length_nil, List.getD_cons_zero, List.getD_cons_succ]
  have hM := (Mod.refl [] w).alloc (.cells #[.int .i64 0, .int .i64 0, .int .i64 0] 23)
  have hb := heapNew (w := w) (o := .cells #[.int .i64 0, .int .i64 0, .int .i64 0] 23)
  generalize w.alloc (.cells #[.int .i64 0, .int .i64 0, .int .i64 0] 23) = w1 at hM hb ⊢
  generalize hn : w.heap.size = n at *
  refine ⟨fok93, wRow_cps S 3 3 (by decide) (by decide) hS _ _ (fun l lv w2 hp hpo hM2 => .inl ⟨_, rfl, hold_ops okT (rs := [.cell 2 23]) rfl ?_⟩) (fun hp w2 hM2 => .inr ⟨_, rfl, hold_ex okT (rs := [.cell 2 23]) rfl ?_⟩)⟩
  · rw [hp] at hX
    obtain ⟨hpc, hp1, hp3, -, -⟩ := rowO_ok hp
    obtain ⟨t0, t1, t2, rfl⟩ := len3 (show l.length = 3 by omega)
    simp only [List.getD_cons_zero, List.getD_cons_succ] at hX
    have z0 := (check0 (hpc t0 (by simp))).2.2.1
    have z1 := (check0 (hpc t1 (by simp))).2.2.1
    have z2 := (check0 (hpc t2 (by simp))).2.2.1
    obtain ⟨b2, o2, c2, e2, _, g2⟩ := (Rd.own hpo).at (by omega) (by simp)
    have f0 : w2.cell? ⟨b2, o2, none⟩ = some (.string ⟨t0.toArray⟩) := g2 0 _ rfl
    have f1 : w2.cell? ⟨b2, o2 + 1, none⟩ = some (.string ⟨t1.toArray⟩) := g2 1 _ rfl
    have f2 : w2.cell? ⟨b2, o2 + 2, none⟩ = some (.string ⟨t2.toArray⟩) := g2 2 _ rfl
    subst e2
    have hb2 := hM2.get hb (by simp)
    have hM02 := hM.trans hM2 (by simp)
    simp (config := { maxSteps := 1000000 }) (disch := first | omega | (simp only [sizeAlloc, sizeDrew, sizeSet, sizePut] <;> omega) | fail) only [GS1, GS2, GS3, GS4, GS5, GS6, GS7, GS8, GS9, GS10, GS11, TT_eq, TTl, Nat.reduceAdd, Nat.reduceMul, Nat.reduceSub, Nat.reduceDiv, Nat.reduceMod, Nat.reducePow, Nat.reduceEqDiff, ↓reduceIte, reduceCtorEq, true_and, and_true, and_self, false_and, and_false, Int.reduceToNat, Int.reduceAdd, Int.reduceSub, Int.reduceMul, cond_true, cond_false, List.toList_toArray, Option.map_some, Option.map_none, Option.some.injEq, List.cons_append, List.nil_append, List.length_cons, List.length_nil, List.getD_cons_zero, List.getD_cons_succ]
    refine hold_tree okT [0, 1, 3, 7, 0, 16, 48, 127, 0, 256, 768, 2047, 4095, 0, 16383] (.qop 0 (.qop 1 (.qop 2 (.qop 4 (.qop 5 (.qop 6 (.qop 8 (.qop 9 (.qop 10 (.eff 3 (.eff 7 (.eff 11 (.lin [12, 13, 14]) (.eff 13 (.lin [11, 12, 14]) .stop)) (.eff 13 (.lin [7, 11, 12, 14]) .stop)) (.eff 13 (.lin [3, 7, 11, 12, 14]) .stop))))))))))) (by kernel_rfl) ?_
    have f0' : (w2.drewN 1).cell? ⟨b2, o2, none⟩ = some (.string ⟨t0.toArray⟩) := f0
    have f1' : (w2.drewN 1).cell? ⟨b2, o2 + 1, none⟩ = some (.string ⟨t1.toArray⟩) := f1
    have f2' : (w2.drewN 1).cell? ⟨b2, o2 + 2, none⟩ = some (.string ⟨t2.toArray⟩) := f2
    have hb3 : (w2.drewN 1).heap[n]? = _ := hb2
    have hM3 := hM02.drewN 1
    generalize w2.drewN 1 = w3 at *
    clear f0 f1 f2 hb2 hpo g2
    refine ht_val okT rfl rfl (v := .slice (some ⟨b2, o2, none⟩) 3 c2) (by simp (config := { maxSteps := 1000000 }) only [GS1, GS2, GS3, GS4, GS5, GS6, GS7, GS8, GS9, GS10, GS11, TT_eq, TTl, Nat.reduceAdd, Nat.reduceMul, Nat.reduceSub, Nat.reduceDiv, Nat.reduceMod, Nat.reducePow, Nat.reduceEqDiff, ↓reduceIte, reduceCtorEq, true_and, and_true, and_self, false_and, and_false, Int.reduceToNat, Int.reduceAdd, Int.reduceSub, Int.reduceMul, cond_true, cond_false, List.toList_toArray, Option.map_some, Option.map_none, Option.some.injEq, List.cons_append, List.nil_append, List.length_cons, List.length_nil, List.getD_cons_zero, List.getD_cons_succ]) ?_
    refine ht_val okT rfl rfl (v := .pointer (some ⟨b2, o2, none⟩)) (by simp (config := { maxSteps := 1000000 }) (disch := first | omega | (simp only [sizeAlloc, sizeDrew, sizeSet, sizePut] <;> omega) | fail) only [GS1, GS2, GS3, GS4, GS5, GS6, GS7, GS8, GS9, GS10, GS11, TT_eq, TTl, Nat.reduceAdd, Nat.reduceMul, Nat.reduceSub, Nat.reduceDiv, Nat.reduceMod, Nat.reducePow, Nat.reduceEqDiff, ↓reduceIte, reduceCtorEq, true_and, and_true, and_self, false_and, and_false, Int.reduceToNat, Int.reduceAdd, Int.reduceSub, Int.reduceMul, cond_true, cond_false, List.toList_toArray, Option.map_some, Option.map_none, Option.some.injEq, List.cons_append, List.nil_append, List.length_cons, List.length_nil, List.getD_cons_zero, List.getD_cons_succ]) ?_
    refine ht_val okT rfl rfl (v := .string ⟨t0.toArray⟩) (by simp (config := { maxSteps := 1000000 }) (disch := first | omega | (simp only [sizeAlloc, sizeDrew, sizeSet, sizePut] <;> omega) | fail) only [GS1, GS2, GS3, GS4, GS5, GS6, GS7, GS8, GS9, GS10, GS11, TT_eq, TTl, Nat.reduceAdd, Nat.reduceMul, Nat.reduceSub, Nat.reduceDiv, Nat.reduceMod, Nat.reducePow, Nat.reduceEqDiff, ↓reduceIte, reduceCtorEq, true_and, and_true, and_self, false_and, and_false, Int.reduceToNat, Int.reduceAdd, Int.reduceSub, Int.reduceMul, cond_true, cond_false, List.toList_toArray, Option.map_some, Option.map_none, Option.some.injEq, List.cons_append, List.nil_append, List.length_cons, List.length_nil, List.getD_cons_zero, List.getD_cons_succ, f0']) ?_
    refine ht_val okT rfl rfl (v := .slice (some ⟨b2, o2, none⟩) 3 c2) (by simp (config := { maxSteps := 1000000 }) only [GS1, GS2, GS3, GS4, GS5, GS6, GS7, GS8, GS9, GS10, GS11, TT_eq, TTl, Nat.reduceAdd, Nat.reduceMul, Nat.reduceSub, Nat.reduceDiv, Nat.reduceMod, Nat.reducePow, Nat.reduceEqDiff, ↓reduceIte, reduceCtorEq, true_and, and_true, and_self, false_and, and_false, Int.reduceToNat, Int.reduceAdd, Int.reduceSub, Int.reduceMul, cond_true, cond_false, List.toList_toArray, Option.map_some, Option.map_none, Option.some.injEq, List.cons_append, List.nil_append, List.length_cons, List.length_nil, List.getD_cons_zero, List.getD_cons_succ]) ?_
    refine ht_val okT rfl rfl (v := .pointer (some ⟨b2, o2 + 1, none⟩)) (by simp (config := { maxSteps := 1000000 }) (disch := first | omega | (simp only [sizeAlloc, sizeDrew, sizeSet, sizePut] <;> omega) | fail) only [GS1, GS2, GS3, GS4, GS5, GS6, GS7, GS8, GS9, GS10, GS11, TT_eq, TTl, Nat.reduceAdd, Nat.reduceMul, Nat.reduceSub, Nat.reduceDiv, Nat.reduceMod, Nat.reducePow, Nat.reduceEqDiff, ↓reduceIte, reduceCtorEq, true_and, and_true, and_self, false_and, and_false, Int.reduceToNat, Int.reduceAdd, Int.reduceSub, Int.reduceMul, cond_true, cond_false, List.toList_toArray, Option.map_some, Option.map_none, Option.some.injEq, List.cons_append, List.nil_append, List.length_cons, List.length_nil, List.getD_cons_zero, List.getD_cons_succ]) ?_
    refine ht_val okT rfl rfl (v := .string ⟨t1.toArray⟩) (by simp (config := { maxSteps := 1000000 }) (disch := first | omega | (simp only [sizeAlloc, sizeDrew, sizeSet, sizePut] <;> omega) | fail) only [GS1, GS2, GS3, GS4, GS5, GS6, GS7, GS8, GS9, GS10, GS11, TT_eq, TTl, Nat.reduceAdd, Nat.reduceMul, Nat.reduceSub, Nat.reduceDiv, Nat.reduceMod, Nat.reducePow, Nat.reduceEqDiff, ↓reduceIte, reduceCtorEq, true_and, and_true, and_self, false_and, and_false, Int.reduceToNat, Int.reduceAdd, Int.reduceSub, Int.reduceMul, cond_true, cond_false, List.toList_toArray, Option.map_some, Option.map_none, Option.some.injEq, List.cons_append, List.nil_append, List.length_cons, List.length_nil, List.getD_cons_zero, List.getD_cons_succ, f1']) ?_
    refine ht_val okT rfl rfl (v := .slice (some ⟨b2, o2, none⟩) 3 c2) (by simp (config := { maxSteps := 1000000 }) only [GS1, GS2, GS3, GS4, GS5, GS6, GS7, GS8, GS9, GS10, GS11, TT_eq, TTl, Nat.reduceAdd, Nat.reduceMul, Nat.reduceSub, Nat.reduceDiv, Nat.reduceMod, Nat.reducePow, Nat.reduceEqDiff, ↓reduceIte, reduceCtorEq, true_and, and_true, and_self, false_and, and_false, Int.reduceToNat, Int.reduceAdd, Int.reduceSub, Int.reduceMul, cond_true, cond_false, List.toList_toArray, Option.map_some, Option.map_none, Option.some.injEq, List.cons_append, List.nil_append, List.length_cons, List.length_nil, List.getD_cons_zero, List.getD_cons_succ]) ?_
    refine ht_val okT rfl rfl (v := .pointer (some ⟨b2, o2 + 2, none⟩)) (by simp (config := { maxSteps := 1000000 }) (disch := first | omega | (simp only [sizeAlloc, sizeDrew, sizeSet, sizePut] <;> omega) | fail) only [GS1, GS2, GS3, GS4, GS5, GS6, GS7, GS8, GS9, GS10, GS11, TT_eq, TTl, Nat.reduceAdd, Nat.reduceMul, Nat.reduceSub, Nat.reduceDiv, Nat.reduceMod, Nat.reducePow, Nat.reduceEqDiff, ↓reduceIte, reduceCtorEq, true_and, and_true, and_self, false_and, and_false, Int.reduceToNat, Int.reduceAdd, Int.reduceSub, Int.reduceMul, cond_true, cond_false, List.toList_toArray, Option.map_some, Option.map_none, Option.some.injEq, List.cons_append, List.nil_append, List.length_cons, List.length_nil, List.getD_cons_zero, List.getD_cons_succ]) ?_
    refine ht_val okT rfl rfl (v := .string ⟨t2.toArray⟩) (by simp (config := { maxSteps := 1000000 }) (disch := first | omega | (simp only [sizeAlloc, sizeDrew, sizeSet, sizePut] <;> omega) | fail) only [GS1, GS2, GS3, GS4, GS5, GS6, GS7, GS8, GS9, GS10, GS11, TT_eq, TTl, Nat.reduceAdd, Nat.reduceMul, Nat.reduceSub, Nat.reduceDiv, Nat.reduceMod, Nat.reducePow, Nat.reduceEqDiff, ↓reduceIte, reduceCtorEq, true_and, and_true, and_self, false_and, and_false, Int.reduceToNat, Int.reduceAdd, Int.reduceSub, Int.reduceMul, cond_true, cond_false, List.toList_toArray, Option.map_some, Option.map_none, Option.some.injEq, List.cons_append, List.nil_append, List.length_cons, List.length_nil, List.getD_cons_zero, List.getD_cons_succ, f2']) ?_
    simp (config := { maxSteps := 1000000 }) only [GS1, GS2, GS3, GS4, GS5, GS6, GS7, GS8, GS9, GS10, GS11, TT_eq, TTl, Nat.reduceAdd, Nat.reduceMul, Nat.reduceSub, Nat.reduceDiv, Nat.reduceMod, Nat.reducePow, Nat.reduceEqDiff, ↓reduceIte, reduceCtorEq, true_and, and_true, and_self, false_and, and_false, Int.reduceToNat, Int.reduceAdd, Int.reduceSub, Int.reduceMul, cond_true, cond_false, List.toList_toArray, Option.map_some, Option.map_none, Option.some.injEq, List.cons_append, List.nil_append, List.length_cons, List.length_nil, List.getD_cons_zero, List.getD_cons_succ]
    have gw33 := f0'
    have gw37 := f1'
    have gw311 := f2'
    have hbw3 := hb3
    have hMw3 := hM3
    clear f0' f1' f2' hb3 hM3
    refine ht_call okT rfl rfl ?_ ?_
    · simp (config := { maxSteps := 1000000 }) (disch := first | omega | (simp only [sizeAlloc, sizeDrew, sizeSet, sizePut] <;> omega) | fail) only [GS1, GS2, GS3, GS4, GS5, GS6, GS7, GS8, GS9, GS10, GS11, TT_eq, TTl, Nat.reduceAdd, Nat.reduceMul, Nat.reduceSub, Nat.reduceDiv, Nat.reduceMod, Nat.reducePow, Nat.reduceEqDiff, ↓reduceIte, reduceCtorEq, true_and, and_true, and_self, false_and, and_false, Int.reduceToNat, Int.reduceAdd, Int.reduceSub, Int.reduceMul, cond_true, cond_false, List.toList_toArray, Option.map_some, Option.map_none, Option.some.injEq, List.cons_append, List.nil_append, List.length_cons, List.length_nil, List.getD_cons_zero, List.getD_cons_succ]
      refine ⟨fok100, wUnnum_cps t0 (by unfold maxLen; omega) _ _ (fun v3 w11 hv hm => .inl ⟨_, rfl, ⟨cellM gw311 hm, cellM gw37 hm⟩, ?_⟩) (fun hv w11 hm => .inr ⟨_, rfl, fun fs' => hold_ex okT (rs := [.cell 2 23]) rfl ?_⟩)⟩
      · rw [hv] at hX
        have gw113 := cellM gw33 hm
        have gw117 := cellM gw37 hm
        have gw1111 := cellM gw311 hm
        have hbw11 := hm.get hbw3 (by simp)
        have hMw11 := hMw3.trans hm (by simp)
        clear hm hv
        refine ht_call okT rfl rfl ?_ ?_
        · simp (config := { maxSteps := 1000000 }) (disch := first | omega | (simp only [sizeAlloc, sizeDrew, sizeSet, sizePut] <;> omega) | fail) only [GS1, GS2, GS3, GS4, GS5, GS6, GS7, GS8, GS9, GS10, GS11, TT_eq, TTl, Nat.reduceAdd, Nat.reduceMul, Nat.reduceSub, Nat.reduceDiv, Nat.reduceMod, Nat.reducePow, Nat.reduceEqDiff, ↓reduceIte, reduceCtorEq, true_and, and_true, and_self, false_and, and_false, Int.reduceToNat, Int.reduceAdd, Int.reduceSub, Int.reduceMul, cond_true, cond_false, List.toList_toArray, Option.map_some, Option.map_none, Option.some.injEq, List.cons_append, List.nil_append, List.length_cons, List.length_nil, List.getD_cons_zero, List.getD_cons_succ]
          refine ⟨fok100, wUnnum_cps t1 (by unfold maxLen; omega) _ _ (fun v7 w12 hv hm => .inl ⟨_, rfl, cellM gw1111 hm, ?_⟩) (fun hv w12 hm => .inr ⟨_, rfl, fun fs' => hold_ex okT (rs := [.cell 2 23]) rfl ?_⟩)⟩
          · rw [hv] at hX
            have gw123 := cellM gw113 hm
            have gw127 := cellM gw117 hm
            have gw1211 := cellM gw1111 hm
            have hbw12 := hm.get hbw11 (by simp)
            have hMw12 := hMw11.trans hm (by simp)
            clear hm hv
            refine ht_call okT rfl rfl ?_ ?_
            · simp (config := { maxSteps := 1000000 }) (disch := first | omega | (simp only [sizeAlloc, sizeDrew, sizeSet, sizePut] <;> omega) | fail) only [GS1, GS2, GS3, GS4, GS5, GS6, GS7, GS8, GS9, GS10, GS11, TT_eq, TTl, Nat.reduceAdd, Nat.reduceMul, Nat.reduceSub, Nat.reduceDiv, Nat.reduceMod, Nat.reducePow, Nat.reduceEqDiff, ↓reduceIte, reduceCtorEq, true_and, and_true, and_self, false_and, and_false, Int.reduceToNat, Int.reduceAdd, Int.reduceSub, Int.reduceMul, cond_true, cond_false, List.toList_toArray, Option.map_some, Option.map_none, Option.some.injEq, List.cons_append, List.nil_append, List.length_cons, List.length_nil, List.getD_cons_zero, List.getD_cons_succ]
              refine ⟨fok100, wUnnum_cps t2 (by unfold maxLen; omega) _ _ (fun v11 w13 hv hm => .inl ⟨_, rfl, ?_⟩) (fun hv w13 hm => .inr ⟨_, rfl, fun fs' => hold_ex okT (rs := [.cell 2 23]) rfl ?_⟩)⟩
              · rw [hv] at hX
                have gw133 := cellM gw123 hm
                have gw137 := cellM gw127 hm
                have gw1311 := cellM gw1211 hm
                have hbw13 := hm.get hbw12 (by simp)
                have hMw13 := hMw12.trans hm (by simp)
                clear hm hv
                refine ht_lin rfl (hold_dops okT (rs := [.cell 2 23]) rfl ?_)
                simp (config := { maxSteps := 1000000 }) (disch := first | omega | (simp only [sizeAlloc, sizeDrew, sizeSet, sizePut] <;> omega) | fail) only [GS1, GS2, GS3, GS4, GS5, GS6, GS7, GS8, GS9, GS10, GS11, TT_eq, TTl, Nat.reduceAdd, Nat.reduceMul, Nat.reduceSub, Nat.reduceDiv, Nat.reduceMod, Nat.reducePow, Nat.reduceEqDiff, ↓reduceIte, reduceCtorEq, true_and, and_true, and_self, false_and, and_false, Int.reduceToNat, Int.reduceAdd, Int.reduceSub, Int.reduceMul, cond_true, cond_false, List.toList_toArray, Option.map_some, Option.map_none, Option.some.injEq, List.cons_append, List.nil_append, List.length_cons, List.length_nil, List.getD_cons_zero, List.getD_cons_succ]
                have hm := (Mod.refl [] w13).alloc (.cells #[.int .i64 0, .int .i64 0, .int .i64 0] 23)
                have hcs := st3 (heapNew (w := w13) (o := .cells #[.int .i64 0, .int .i64 0, .int .i64 0] 23)) (x := .int .i64 v3) (y := .int .i64 v7) (z := .int .i64 v11)
                have hwb := hMw13.size
                have hnb : n < w13.heap.size := (Array.getElem?_eq_some_iff.1 hbw13).1
                have hbs : ((((w13.alloc (.cells #[.int .i64 0, .int .i64 0, .int .i64 0] 23)).setCell ⟨w13.heap.size, 0, none⟩ (.int .i64 v3)).setCell ⟨w13.heap.size, 1, none⟩ (.int .i64 v7)).setCell ⟨w13.heap.size, 2, none⟩ (.int .i64 v11)).heap[n]? = _ := heapSetNe (heapSetNe (heapSetNe (hm.get hbw13 (by simp)) (by omega)) (by omega)) (by omega)
                have hMs : Mod [] w ((((w13.alloc (.cells #[.int .i64 0, .int .i64 0, .int .i64 0] 23)).setCell ⟨w13.heap.size, 0, none⟩ (.int .i64 v3)).setCell ⟨w13.heap.size, 1, none⟩ (.int .i64 v7)).setCell ⟨w13.heap.size, 2, none⟩ (.int .i64 v11)) := (((hMw13.alloc _).set (.inr hwb) _).set (.inr hwb) _).set (.inr hwb) _
                generalize ((((w13.alloc (.cells #[.int .i64 0, .int .i64 0, .int .i64 0] 23)).setCell ⟨w13.heap.size, 0, none⟩ (.int .i64 v3)).setCell ⟨w13.heap.size, 1, none⟩ (.int .i64 v7)).setCell ⟨w13.heap.size, 2, none⟩ (.int .i64 v11)) = w20 at hcs hbs hMs ⊢
                generalize w13.heap.size = b4 at hnb hwb hcs hbs hMs ⊢
                refine ⟨⟨cellM gw1311 hm, cellM gw137 hm, cellM gw133 hm⟩, fok46, wMayTxn_cps ((v3 : Int), (v7 : Int), (v11 : Int)) _ _ fun w21 hm2 => .inl ⟨_, rfl, hold_ops okT (rs := [.cell 2 23]) rfl ?_⟩⟩
                have hcs2 := hm2.get hcs (by simp)
                have hbs2 := hm2.get hbs (by simp)
                have hMs2 := hMs.trans hm2 (by simp)
                simp (config := { maxSteps := 1000000 }) (disch := first | omega | (simp only [sizeAlloc, sizeDrew, sizeSet, sizePut] <;> omega) | fail) only [GS1, GS2, GS3, GS4, GS5, GS6, GS7, GS8, GS9, GS10, GS11, TT_eq, TTl, Nat.reduceAdd, Nat.reduceMul, Nat.reduceSub, Nat.reduceDiv, Nat.reduceMod, Nat.reducePow, Nat.reduceEqDiff, ↓reduceIte, reduceCtorEq, true_and, and_true, and_self, false_and, and_false, Int.reduceToNat, Int.reduceAdd, Int.reduceSub, Int.reduceMul, cond_true, cond_false, List.toList_toArray, Option.map_some, Option.map_none, Option.some.injEq, List.cons_append, List.nil_append, List.length_cons, List.length_nil, List.getD_cons_zero, List.getD_cons_succ]
                simp only at hX
                refine ⟨fok95, wMust_cps _ _ _ (fun ht => .inl ⟨_, rfl, hold_ops okT (rs := [.cell 2 23]) rfl ?_⟩) (fun ht => .inr ⟨_, rfl, hold_ex okT (rs := [.cell 2 23]) rfl ?_⟩)⟩
                · rw [if_pos ht] at hX
                  simp (config := { maxSteps := 1000000 }) (disch := first | omega | (simp only [sizeAlloc, sizeDrew, sizeSet, sizePut] <;> omega) | fail) only [GS1, GS2, GS3, GS4, GS5, GS6, GS7, GS8, GS9, GS10, GS11, TT_eq, TTl, Nat.reduceAdd, Nat.reduceMul, Nat.reduceSub, Nat.reduceDiv, Nat.reduceMod, Nat.reducePow, Nat.reduceEqDiff, ↓reduceIte, reduceCtorEq, true_and, and_true, and_self, false_and, and_false, Int.reduceToNat, Int.reduceAdd, Int.reduceSub, Int.reduceMul, cond_true, cond_false, List.toList_toArray, Option.map_some, Option.map_none, Option.some.injEq, List.cons_append, List.nil_append, List.length_cons, List.length_nil, List.getD_cons_zero, List.getD_cons_succ, cellOf hcs2, cellOf hbs2, frozenOf hbs2]
                  have hcf := st3 hbs2 (x := .int .i64 v3) (y := .int .i64 v7) (z := .int .i64 v11)
                  have hMf : Mod [] w ((((w21).setCell ⟨n, 0, none⟩ (.int .i64 v3)).setCell ⟨n, 1, none⟩ (.int .i64 v7)).setCell ⟨n, 2, none⟩ (.int .i64 v11)) := ((hMs2.set (.inr (by simp only; omega)) _).set (.inr (by simp only; omega)) _).set (.inr (by simp only; omega)) _
                  generalize ((((w21).setCell ⟨n, 0, none⟩ (.int .i64 v3)).setCell ⟨n, 1, none⟩ (.int .i64 v7)).setCell ⟨n, 2, none⟩ (.int .i64 v11)) = w22 at hcf hMf ⊢
                  simp (config := { maxSteps := 1000000 }) (disch := first | omega | (simp only [sizeAlloc, sizeDrew, sizeSet, sizePut] <;> omega) | fail) only [GS1, GS2, GS3, GS4, GS5, GS6, GS7, GS8, GS9, GS10, GS11, TT_eq, TTl, Nat.reduceAdd, Nat.reduceMul, Nat.reduceSub, Nat.reduceDiv, Nat.reduceMod, Nat.reducePow, Nat.reduceEqDiff, ↓reduceIte, reduceCtorEq, true_and, and_true, and_self, false_and, and_false, Int.reduceToNat, Int.reduceAdd, Int.reduceSub, Int.reduceMul, cond_true, cond_false, List.toList_toArray, Option.map_some, Option.map_none, Option.some.injEq, List.cons_append, List.nil_append, List.length_cons, List.length_nil, List.getD_cons_zero, List.getD_cons_succ, loadW]
                  refine ⟨_, cellOf hcf, _, cellOf hcf, _, cellOf hcf, ?_⟩
                  exact h1 _ _ hX.symm hMf
                · rw [if_neg (by simp [ht])] at hX
                  simp (config := { maxSteps := 1000000 }) (disch := first | omega | (simp only [sizeAlloc, sizeDrew, sizeSet, sizePut] <;> omega) | fail) only [GS1, GS2, GS3, GS4, GS5, GS6, GS7, GS8, GS9, GS10, GS11, TT_eq, TTl, Nat.reduceAdd, Nat.reduceMul, Nat.reduceSub, Nat.reduceDiv, Nat.reduceMod, Nat.reducePow, Nat.reduceEqDiff, ↓reduceIte, reduceCtorEq, true_and, and_true, and_self, false_and, and_false, Int.reduceToNat, Int.reduceAdd, Int.reduceSub, Int.reduceMul, cond_true, cond_false, List.toList_toArray, Option.map_some, Option.map_none, Option.some.injEq, List.cons_append, List.nil_append, List.length_cons, List.length_nil, List.getD_cons_zero, List.getD_cons_succ]
                  exact h0 hX.symm _ hMs2
              · rw [hv] at hX
                simp (config := { maxSteps := 1000000 }) (disch := first | omega | (simp only [sizeAlloc, sizeDrew, sizeSet, sizePut] <;> omega) | fail) only [GS1, GS2, GS3, GS4, GS5, GS6, GS7, GS8, GS9, GS10, GS11, TT_eq, TTl, Nat.reduceAdd, Nat.reduceMul, Nat.reduceSub, Nat.reduceDiv, Nat.reduceMod, Nat.reducePow, Nat.reduceEqDiff, ↓reduceIte, reduceCtorEq, true_and, and_true, and_self, false_and, and_false, Int.reduceToNat, Int.reduceAdd, Int.reduceSub, Int.reduceMul, cond_true, cond_false, List.toList_toArray, Option.map_some, Option.map_none, Option.some.injEq, List.cons_append, List.nil_append, List.length_cons, List.length_nil, List.getD_cons_zero, List.getD_cons_succ]
                exact h0 (by rw [← hX]; repeat (first | rfl | split)) _ (hMw12.trans hm (by simp))
            · refine ht_eff okT rfl rfl (v := .pointer (some ⟨w12.heap.size, 0, none⟩)) (w' := w12.alloc (.cells #[.int .i64 0, .int .i64 0, .int .i64 0] 23)) (by simp (config := { maxSteps := 1000000 }) only [GS1, GS2, GS3, GS4, GS5, GS6, GS7, GS8, GS9, GS10, GS11, TT_eq, TTl, Nat.reduceAdd, Nat.reduceMul, Nat.reduceSub, Nat.reduceDiv, Nat.reduceMod, Nat.reducePow, Nat.reduceEqDiff, ↓reduceIte, reduceCtorEq, true_and, and_true, and_self, false_and, and_false, Int.reduceToNat, Int.reduceAdd, Int.reduceSub, Int.reduceMul, cond_true, cond_false, List.toList_toArray, Option.map_some, Option.map_none, Option.some.injEq, List.cons_append, List.nil_append, List.length_cons, List.length_nil, List.getD_cons_zero, List.getD_cons_succ]) ?_ ?_ ht_stop
              all_goals have hm := (Mod.refl [] w12).alloc (.cells #[.int .i64 0, .int .i64 0, .int .i64 0] 23)
              all_goals have hcw14 := heapNew (w := w12) (o := .cells #[.int .i64 0, .int .i64 0, .int .i64 0] 23)
              all_goals generalize w12.alloc (.cells #[.int .i64 0, .int .i64 0, .int .i64 0] 23) = w14 at hm hcw14 ⊢
              · simp (config := { maxSteps := 1000000 }) only [GS1, GS2, GS3, GS4, GS5, GS6, GS7, GS8, GS9, GS10, GS11, TT_eq, TTl, Nat.reduceAdd, Nat.reduceMul, Nat.reduceSub, Nat.reduceDiv, Nat.reduceMod, Nat.reducePow, Nat.reduceEqDiff, ↓reduceIte, reduceCtorEq, true_and, and_true, and_self, false_and, and_false, Int.reduceToNat, Int.reduceAdd, Int.reduceSub, Int.reduceMul, cond_true, cond_false, List.toList_toArray, Option.map_some, Option.map_none, Option.some.injEq, List.cons_append, List.nil_append, List.length_cons, List.length_nil, List.getD_cons_zero, List.getD_cons_succ]
                exact ⟨cellM gw1211 hm, cellM gw127 hm, cellM gw123 hm⟩
              have gw143 := cellM gw123 hm
              have gw147 := cellM gw127 hm
              have gw1411 := cellM gw1211 hm
              have hnb : n < w12.heap.size := (Array.getElem?_eq_some_iff.1 hbw12).1
              have hbw14 := hm.get hbw12 (by simp)
              have hMw14 := hMw12.trans hm (by simp)
              clear hm
              have hwb := hMw12.size
              generalize w12.heap.size = b4 at hnb hwb hcw14 ⊢
              simp (config := { maxSteps := 1000000 }) only [GS1, GS2, GS3, GS4, GS5, GS6, GS7, GS8, GS9, GS10, GS11, TT_eq, TTl, Nat.reduceAdd, Nat.reduceMul, Nat.reduceSub, Nat.reduceDiv, Nat.reduceMod, Nat.reducePow, Nat.reduceEqDiff, ↓reduceIte, reduceCtorEq, true_and, and_true, and_self, false_and, and_false, Int.reduceToNat, Int.reduceAdd, Int.reduceSub, Int.reduceMul, cond_true, cond_false, List.toList_toArray, Option.map_some, Option.map_none, Option.some.injEq, List.cons_append, List.nil_append, List.length_cons, List.length_nil, List.getD_cons_zero, List.getD_cons_succ]
              refine ht_lin rfl (hold_dops okT (rs := [.cell 2 23]) rfl ?_)
              simp (config := { maxSteps := 1000000 }) (disch := first | omega | (simp only [sizeAlloc, sizeDrew, sizeSet, sizePut] <;> omega) | fail) only [GS1, GS2, GS3, GS4, GS5, GS6, GS7, GS8, GS9, GS10, GS11, TT_eq, TTl, Nat.reduceAdd, Nat.reduceMul, Nat.reduceSub, Nat.reduceDiv, Nat.reduceMod, Nat.reducePow, Nat.reduceEqDiff, ↓reduceIte, reduceCtorEq, true_and, and_true, and_self, false_and, and_false, Int.reduceToNat, Int.reduceAdd, Int.reduceSub, Int.reduceMul, cond_true, cond_false, List.toList_toArray, Option.map_some, Option.map_none, Option.some.injEq, List.cons_append, List.nil_append, List.length_cons, List.length_nil, List.getD_cons_zero, List.getD_cons_succ]
              refine ⟨fok100, wUnnum_cps t2 (by unfold maxLen; omega) _ _ (fun v11 w15 hv hm => .inl ⟨_, rfl, hold_dops okT (rs := [.cell 2 23]) rfl ?_⟩) (fun hv w15 hm => .inr ⟨_, rfl, fun fs' => hold_ex okT (rs := [.cell 2 23]) rfl ?_⟩)⟩
              · rw [hv] at hX
                have gw153 := cellM gw143 hm
                have gw157 := cellM gw147 hm
                have gw1511 := cellM gw1411 hm
                have hbw15 := hm.get hbw14 (by simp)
                have hMw15 := hMw14.trans hm (by simp)
                have hcw15 := hm.get hcw14 (by simp)
                clear hm hv
                simp (config := { maxSteps := 1000000 }) (disch := first | omega | (simp only [sizeAlloc, sizeDrew, sizeSet, sizePut] <;> omega) | fail) only [GS1, GS2, GS3, GS4, GS5, GS6, GS7, GS8, GS9, GS10, GS11, TT_eq, TTl, Nat.reduceAdd, Nat.reduceMul, Nat.reduceSub, Nat.reduceDiv, Nat.reduceMod, Nat.reducePow, Nat.reduceEqDiff, ↓reduceIte, reduceCtorEq, true_and, and_true, and_self, false_and, and_false, Int.reduceToNat, Int.reduceAdd, Int.reduceSub, Int.reduceMul, cond_true, cond_false, List.toList_toArray, Option.map_some, Option.map_none, Option.some.injEq, List.cons_append, List.nil_append, List.length_cons, List.length_nil, List.getD_cons_zero, List.getD_cons_succ, cellOf hcw15, frozenOf hcw15]
                have hcs := st3 hcw15 (x := .int .i64 v3) (y := .int .i64 v7) (z := .int .i64 v11)
                have hbs : ((((w15).setCell ⟨b4, 0, none⟩ (.int .i64 v3)).setCell ⟨b4, 1, none⟩ (.int .i64 v7)).setCell ⟨b4, 2, none⟩ (.int .i64 v11)).heap[n]? = _ := heapSetNe (heapSetNe (heapSetNe hbw15 (by omega)) (by omega)) (by omega)
                have hMs : Mod [] w ((((w15).setCell ⟨b4, 0, none⟩ (.int .i64 v3)).setCell ⟨b4, 1, none⟩ (.int .i64 v7)).setCell ⟨b4, 2, none⟩ (.int .i64 v11)) := ((hMw15.set (.inr hwb) _).set (.inr hwb) _).set (.inr hwb) _
                generalize ((((w15).setCell ⟨b4, 0, none⟩ (.int .i64 v3)).setCell ⟨b4, 1, none⟩ (.int .i64 v7)).setCell ⟨b4, 2, none⟩ (.int .i64 v11)) = w20 at hcs hbs hMs ⊢
                refine ⟨fok46, wMayTxn_cps ((v3 : Int), (v7 : Int), (v11 : Int)) _ _ fun w21 hm2 => .inl ⟨_, rfl, hold_ops okT (rs := [.cell 2 23]) rfl ?_⟩⟩
                have hcs2 := hm2.get hcs (by simp)
                have hbs2 := hm2.get hbs (by simp)
                have hMs2 := hMs.trans hm2 (by simp)
                simp (config := { maxSteps := 1000000 }) (disch := first | omega | (simp only [sizeAlloc, sizeDrew, sizeSet, sizePut] <;> omega) | fail) only [GS1, GS2, GS3, GS4, GS5, GS6, GS7, GS8, GS9, GS10, GS11, TT_eq, TTl, Nat.reduceAdd, Nat.reduceMul, Nat.reduceSub, Nat.reduceDiv, Nat.reduceMod, Nat.reducePow, Nat.reduceEqDiff, ↓reduceIte, reduceCtorEq, true_and, and_true, and_self, false_and, and_false, Int.reduceToNat, Int.reduceAdd, Int.reduceSub, Int.reduceMul, cond_true, cond_false, List.toList_toArray, Option.map_some, Option.map_none, Option.some.injEq, List.cons_append, List.nil_append, List.length_cons, List.length_nil, List.getD_cons_zero, List.getD_cons_succ]
                simp only at hX
                refine ⟨fok95, wMust_cps _ _ _ (fun ht => .inl ⟨_, rfl, hold_ops okT (rs := [.cell 2 23]) rfl ?_⟩) (fun ht => .inr ⟨_, rfl, hold_ex okT (rs := [.cell 2 23]) rfl ?_⟩)⟩
                · rw [if_pos ht] at hX
                  simp (config := { maxSteps := 1000000 }) (disch := first | omega | (simp only [sizeAlloc, sizeDrew, sizeSet, sizePut] <;> omega) | fail) only [GS1, GS2, GS3, GS4, GS5, GS6, GS7, GS8, GS9, GS10, GS11, TT_eq, TTl, Nat.reduceAdd, Nat.reduceMul, Nat.reduceSub, Nat.reduceDiv, Nat.reduceMod, Nat.reducePow, Nat.reduceEqDiff, ↓reduceIte, reduceCtorEq, true_and, and_true, and_self, false_and, and_false, Int.reduceToNat, Int.reduceAdd, Int.reduceSub, Int.reduceMul, cond_true, cond_false, List.toList_toArray, Option.map_some, Option.map_none, Option.some.injEq, List.cons_append, List.nil_append, List.length_cons, List.length_nil, List.getD_cons_zero, List.getD_cons_succ, cellOf hcs2, cellOf hbs2, frozenOf hbs2]
                  have hcf := st3 hbs2 (x := .int .i64 v3) (y := .int .i64 v7) (z := .int .i64 v11)
                  have hMf : Mod [] w ((((w21).setCell ⟨n, 0, none⟩ (.int .i64 v3)).setCell ⟨n, 1, none⟩ (.int .i64 v7)).setCell ⟨n, 2, none⟩ (.int .i64 v11)) := ((hMs2.set (.inr (by simp only; omega)) _).set (.inr (by simp only; omega)) _).set (.inr (by simp only; omega)) _
                  generalize ((((w21).setCell ⟨n, 0, none⟩ (.int .i64 v3)).setCell ⟨n, 1, none⟩ (.int .i64 v7)).setCell ⟨n, 2, none⟩ (.int .i64 v11)) = w22 at hcf hMf ⊢
                  simp (config := { maxSteps := 1000000 }) (disch := first | omega | (simp only [sizeAlloc, sizeDrew, sizeSet, sizePut] <;> omega) | fail) only [GS1, GS2, GS3, GS4, GS5, GS6, GS7, GS8, GS9, GS10, GS11, TT_eq, TTl, Nat.reduceAdd, Nat.reduceMul, Nat.reduceSub, Nat.reduceDiv, Nat.reduceMod, Nat.reducePow, Nat.reduceEqDiff, ↓reduceIte, reduceCtorEq, true_and, and_true, and_self, false_and, and_false, Int.reduceToNat, Int.reduceAdd, Int.reduceSub, Int.reduceMul, cond_true, cond_false, List.toList_toArray, Option.map_some, Option.map_none, Option.some.injEq, List.cons_append, List.nil_append, List.length_cons, List.length_nil, List.getD_cons_zero, List.getD_cons_succ, loadW]
                  refine ⟨_, cellOf hcf, _, cellOf hcf, _, cellOf hcf, ?_⟩
                  exact h1 _ _ hX.symm hMf
                · rw [if_neg (by simp [ht])] at hX
                  simp (config := { maxSteps := 1000000 }) (disch := first | omega | (simp only [sizeAlloc, sizeDrew, sizeSet, sizePut] <;> omega) | fail) only [GS1, GS2, GS3, GS4, GS5, GS6, GS7, GS8, GS9, GS10, GS11, TT_eq, TTl, Nat.reduceAdd, Nat.reduceMul, Nat.reduceSub, Nat.reduceDiv, Nat.reduceMod, Nat.reducePow, Nat.reduceEqDiff, ↓reduceIte, reduceCtorEq, true_and, and_true, and_self, false_and, and_false, Int.reduceToNat, Int.reduceAdd, Int.reduceSub, Int.reduceMul, cond_true, cond_false, List.toList_toArray, Option.map_some, Option.map_none, Option.some.injEq, List.cons_append, List.nil_append, List.length_cons, List.length_nil, List.getD_cons_zero, List.getD_cons_succ]
                  exact h0 hX.symm _ hMs2
              · rw [hv] at hX
                simp (config := { maxSteps := 1000000 }) (disch := first | omega | (simp only [sizeAlloc, sizeDrew, sizeSet, sizePut] <;> omega) | fail) only [GS1, GS2, GS3, GS4, GS5, GS6, GS7, GS8, GS9, GS10, GS11, TT_eq, TTl, Nat.reduceAdd, Nat.reduceMul, Nat.reduceSub, Nat.reduceDiv, Nat.reduceMod, Nat.reducePow, Nat.reduceEqDiff, ↓reduceIte, reduceCtorEq, true_and, and_true, and_self, false_and, and_false, Int.reduceToNat, Int.reduceAdd, Int.reduceSub, Int.reduceMul, cond_true, cond_false, List.toList_toArray, Option.map_some, Option.map_none, Option.some.injEq, List.cons_append, List.nil_append, List.length_cons, List.length_nil, List.getD_cons_zero, List.getD_cons_succ]
                exact h0 (by rw [← hX]; repeat (first | rfl | split)) _ (hMw14.trans hm (by simp))
          · rw [hv] at hX
            simp (config := { maxSteps := 1000000 }) (disch := first | omega | (simp only [sizeAlloc, sizeDrew, sizeSet, sizePut] <;> omega) | fail) only [GS1, GS2, GS3, GS4, GS5, GS6, GS7, GS8, GS9, GS10, GS11, TT_eq, TTl, Nat.reduceAdd, Nat.reduceMul, Nat.reduceSub, Nat.reduceDiv, Nat.reduceMod, Nat.reducePow, Nat.reduceEqDiff, ↓reduceIte, reduceCtorEq, true_and, and_true, and_self, false_and, and_false, Int.reduceToNat, Int.reduceAdd, Int.reduceSub, Int.reduceMul, cond_true, cond_false, List.toList_toArray, Option.map_some, Option.map_none, Option.some.injEq, List.cons_append, List.nil_append, List.length_cons, List.length_nil, List.getD_cons_zero, List.getD_cons_succ]
            exact h0 (by rw [← hX]; repeat (first | rfl | split)) _ (hMw11.trans hm (by simp))
        · refine ht_eff okT rfl rfl (v := .pointer (some ⟨w11.heap.size, 0, none⟩)) (w' := w11.alloc (.cells #[.int .i64 0, .int .i64 0, .int .i64 0] 23)) (by simp (config := { maxSteps := 1000000 }) only [GS1, GS2, GS3, GS4, GS5, GS6, GS7, GS8, GS9, GS10, GS11, TT_eq, TTl, Nat.reduceAdd, Nat.reduceMul, Nat.reduceSub, Nat.reduceDiv, Nat.reduceMod, Nat.reducePow, Nat.reduceEqDiff, ↓reduceIte, reduceCtorEq, true_and, and_true, and_self, false_and, and_false, Int.reduceToNat, Int.reduceAdd, Int.reduceSub, Int.reduceMul, cond_true, cond_false, List.toList_toArray, Option.map_some, Option.map_none, Option.some.injEq, List.cons_append, List.nil_append, List.length_cons, List.length_nil, List.getD_cons_zero, List.getD_cons_succ]) ?_ ?_ ht_stop
          all_goals have hm := (Mod.refl [] w11).alloc (.cells #[.int .i64 0, .int .i64 0, .int .i64 0] 23)
          all_goals have hcw16 := heapNew (w := w11) (o := .cells #[.int .i64 0, .int .i64 0, .int .i64 0] 23)
          all_goals generalize w11.alloc (.cells #[.int .i64 0, .int .i64 0, .int .i64 0] 23) = w16 at hm hcw16 ⊢
          · simp (config := { maxSteps := 1000000 }) only [GS1, GS2, GS3, GS4, GS5, GS6, GS7, GS8, GS9, GS10, GS11, TT_eq, TTl, Nat.reduceAdd, Nat.reduceMul, Nat.reduceSub, Nat.reduceDiv, Nat.reduceMod, Nat.reducePow, Nat.reduceEqDiff, ↓reduceIte, reduceCtorEq, true_and, and_true, and_self, false_and, and_false, Int.reduceToNat, Int.reduceAdd, Int.reduceSub, Int.reduceMul, cond_true, cond_false, List.toList_toArray, Option.map_some, Option.map_none, Option.some.injEq, List.cons_append, List.nil_append, List.length_cons, List.length_nil, List.getD_cons_zero, List.getD_cons_succ]
            exact ⟨cellM gw1111 hm, cellM gw117 hm, cellM gw113 hm⟩
          have gw163 := cellM gw113 hm
          have gw167 := cellM gw117 hm
          have gw1611 := cellM gw1111 hm
          have hnb : n < w11.heap.size := (Array.getElem?_eq_some_iff.1 hbw11).1
          have hbw16 := hm.get hbw11 (by simp)
          have hMw16 := hMw11.trans hm (by simp)
          clear hm
          have hwb := hMw11.size
          generalize w11.heap.size = b4 at hnb hwb hcw16 ⊢
          simp (config := { maxSteps := 1000000 }) only [GS1, GS2, GS3, GS4, GS5, GS6, GS7, GS8, GS9, GS10, GS11, TT_eq, TTl, Nat.reduceAdd, Nat.reduceMul, Nat.reduceSub, Nat.reduceDiv, Nat.reduceMod, Nat.reducePow, Nat.reduceEqDiff, ↓reduceIte, reduceCtorEq, true_and, and_true, and_self, false_and, and_false, Int.reduceToNat, Int.reduceAdd, Int.reduceSub, Int.reduceMul, cond_true, cond_false, List.toList_toArray, Option.map_some, Option.map_none, Option.some.injEq, List.cons_append, List.nil_append, List.length_cons, List.length_nil, List.getD_cons_zero, List.getD_cons_succ]
          refine ht_lin rfl (hold_dops okT (rs := [.cell 2 23]) rfl ?_)
          simp (config := { maxSteps := 1000000 }) (disch := first | omega | (simp only [sizeAlloc, sizeDrew, sizeSet, sizePut] <;> omega) | fail) only [GS1, GS2, GS3, GS4, GS5, GS6, GS7, GS8, GS9, GS10, GS11, TT_eq, TTl, Nat.reduceAdd, Nat.reduceMul, Nat.reduceSub, Nat.reduceDiv, Nat.reduceMod, Nat.reducePow, Nat.reduceEqDiff, ↓reduceIte, reduceCtorEq, true_and, and_true, and_self, false_and, and_false, Int.reduceToNat, Int.reduceAdd, Int.reduceSub, Int.reduceMul, cond_true, cond_false, List.toList_toArray, Option.map_some, Option.map_none, Option.some.injEq, List.cons_append, List.nil_append, List.length_cons, List.length_nil, List.getD_cons_zero, List.getD_cons_succ]
          refine ⟨fok100, wUnnum_cps t1 (by unfold maxLen; omega) _ _ (fun v7 w17 hv hm => .inl ⟨_, rfl, cellM gw1611 hm, hold_dops okT (rs := [.cell 2 23]) rfl ?_⟩) (fun hv w17 hm => .inr ⟨_, rfl, fun fs' => hold_ex okT (rs := [.cell 2 23]) rfl ?_⟩)⟩
          · rw [hv] at hX
            have gw173 := cellM gw163 hm
            have gw177 := cellM gw167 hm
            have gw1711 := cellM gw1611 hm
            have hbw17 := hm.get hbw16 (by simp)
            have hMw17 := hMw16.trans hm (by simp)
            have hcw17 := hm.get hcw16 (by simp)
            clear hm hv
            simp (config := { maxSteps := 1000000 }) (disch := first | omega | (simp only [sizeAlloc, sizeDrew, sizeSet, sizePut] <;> omega) | fail) only [GS1, GS2, GS3, GS4, GS5, GS6, GS7, GS8, GS9, GS10, GS11, TT_eq, TTl, Nat.reduceAdd, Nat.reduceMul, Nat.reduceSub, Nat.reduceDiv, Nat.reduceMod, Nat.reducePow, Nat.reduceEqDiff, ↓reduceIte, reduceCtorEq, true_and, and_true, and_self, false_and, and_false, Int.reduceToNat, Int.reduceAdd, Int.reduceSub, Int.reduceMul, cond_true, cond_false, List.toList_toArray, Option.map_some, Option.map_none, Option.some.injEq, List.cons_append, List.nil_append, List.length_cons, List.length_nil, List.getD_cons_zero, List.getD_cons_succ]
            refine ⟨fok100, wUnnum_cps t2 (by unfold maxLen; omega) _ _ (fun v11 w18 hv hm => .inl ⟨_, rfl, hold_dops okT (rs := [.cell 2 23]) rfl ?_⟩) (fun hv w18 hm => .inr ⟨_, rfl, fun fs' => hold_ex okT (rs := [.cell 2 23]) rfl ?_⟩)⟩
            · rw [hv] at hX
              have gw183 := cellM gw173 hm
              have gw187 := cellM gw177 hm
              have gw1811 := cellM gw1711 hm
              have hbw18 := hm.get hbw17 (by simp)
              have hMw18 := hMw17.trans hm (by simp)
              have hcw18 := hm.get hcw17 (by simp)
              clear hm hv
              simp (config := { maxSteps := 1000000 }) (disch := first | omega | (simp only [sizeAlloc, sizeDrew, sizeSet, sizePut] <;> omega) | fail) only [GS1, GS2, GS3, GS4, GS5, GS6, GS7, GS8, GS9, GS10, GS11, TT_eq, TTl, Nat.reduceAdd, Nat.reduceMul, Nat.reduceSub, Nat.reduceDiv, Nat.reduceMod, Nat.reducePow, Nat.reduceEqDiff, ↓reduceIte, reduceCtorEq, true_and, and_true, and_self, false_and, and_false, Int.reduceToNat, Int.reduceAdd, Int.reduceSub, Int.reduceMul, cond_true, cond_false, List.toList_toArray, Option.map_some, Option.map_none, Option.some.injEq, List.cons_append, List.nil_append, List.length_cons, List.length_nil, List.getD_cons_zero, List.getD_cons_succ, cellOf hcw18, frozenOf hcw18]
              have hcs := st3 hcw18 (x := .int .i64 v3) (y := .int .i64 v7) (z := .int .i64 v11)
              have hbs : ((((w18).setCell ⟨b4, 0, none⟩ (.int .i64 v3)).setCell ⟨b4, 1, none⟩ (.int .i64 v7)).setCell ⟨b4, 2, none⟩ (.int .i64 v11)).heap[n]? = _ := heapSetNe (heapSetNe (heapSetNe hbw18 (by omega)) (by omega)) (by omega)
              have hMs : Mod [] w ((((w18).setCell ⟨b4, 0, none⟩ (.int .i64 v3)).setCell ⟨b4, 1, none⟩ (.int .i64 v7)).setCell ⟨b4, 2, none⟩ (.int .i64 v11)) := ((hMw18.set (.inr hwb) _).set (.inr hwb) _).set (.inr hwb) _
              generalize ((((w18).setCell ⟨b4, 0, none⟩ (.int .i64 v3)).setCell ⟨b4, 1, none⟩ (.int .i64 v7)).setCell ⟨b4, 2, none⟩ (.int .i64 v11)) = w20 at hcs hbs hMs ⊢
              refine ⟨fok46, wMayTxn_cps ((v3 : Int), (v7 : Int), (v11 : Int)) _ _ fun w21 hm2 => .inl ⟨_, rfl, hold_ops okT (rs := [.cell 2 23]) rfl ?_⟩⟩
              have hcs2 := hm2.get hcs (by simp)
              have hbs2 := hm2.get hbs (by simp)
              have hMs2 := hMs.trans hm2 (by simp)
              simp (config := { maxSteps := 1000000 }) (disch := first | omega | (simp only [sizeAlloc, sizeDrew, sizeSet, sizePut] <;> omega) | fail) only [GS1, GS2, GS3, GS4, GS5, GS6, GS7, GS8, GS9, GS10, GS11, TT_eq, TTl, Nat.reduceAdd, Nat.reduceMul, Nat.reduceSub, Nat.reduceDiv, Nat.reduceMod, Nat.reducePow, Nat.reduceEqDiff, ↓reduceIte, reduceCtorEq, true_and, and_true, and_self, false_and, and_false, Int.reduceToNat, Int.reduceAdd, Int.reduceSub, Int.reduceMul, cond_true, cond_false, List.toList_toArray, Option.map_some, Option.map_none, Option.some.injEq, List.cons_append, List.nil_append, List.length_cons, List.length_nil, List.getD_cons_zero, List.getD_cons_succ]
              simp only at hX
              refine ⟨fok95, wMust_cps _ _ _ (fun ht => .inl ⟨_, rfl, hold_ops okT (rs := [.cell 2 23]) rfl ?_⟩) (fun ht => .inr ⟨_, rfl, hold_ex okT (rs := [.cell 2 23]) rfl ?_⟩)⟩
              · rw [if_pos ht] at hX
                simp (config := { maxSteps := 1000000 }) (disch := first | omega | (simp only [sizeAlloc, sizeDrew, sizeSet, sizePut] <;> omega) | fail) only [GS1, GS2, GS3, GS4, GS5, GS6, GS7, GS8, GS9, GS10, GS11, TT_eq, TTl, Nat.reduceAdd, Nat.reduceMul, Nat.reduceSub, Nat.reduceDiv, Nat.reduceMod, Nat.reducePow, Nat.reduceEqDiff, ↓reduceIte, reduceCtorEq, true_and, and_true, and_self, false_and, and_false, Int.reduceToNat, Int.reduceAdd, Int.reduceSub, Int.reduceMul, cond_true, cond_false, List.toList_toArray, Option.map_some, Option.map_none, Option.some.injEq, List.cons_append, List.nil_append, List.length_cons, List.length_nil, List.getD_cons_zero, List.getD_cons_succ, cellOf hcs2, cellOf hbs2, frozenOf hbs2]
                have hcf := st3 hbs2 (x := .int .i64 v3) (y := .int .i64 v7) (z := .int .i64 v11)
                have hMf : Mod [] w ((((w21).setCell ⟨n, 0, none⟩ (.int .i64 v3)).setCell ⟨n, 1, none⟩ (.int .i64 v7)).setCell ⟨n, 2, none⟩ (.int .i64 v11)) := ((hMs2.set (.inr (by simp only; omega)) _).set (.inr (by simp only; omega)) _).set (.inr (by simp only; omega)) _
                generalize ((((w21).setCell ⟨n, 0, none⟩ (.int .i64 v3)).setCell ⟨n, 1, none⟩ (.int .i64 v7)).setCell ⟨n, 2, none⟩ (.int .i64 v11)) = w22 at hcf hMf ⊢
                simp (config := { maxSteps := 1000000 }) (disch := first | omega | (simp only [sizeAlloc, sizeDrew, sizeSet, sizePut] <;> omega) | fail) only [GS1, GS2, GS3, GS4, GS5, GS6, GS7, GS8, GS9, GS10, GS11, TT_eq, TTl, Nat.reduceAdd, Nat.reduceMul, Nat.reduceSub, Nat.reduceDiv, Nat.reduceMod, Nat.reducePow, Nat.reduceEqDiff, ↓reduceIte, reduceCtorEq, true_and, and_true, and_self, false_and, and_false, Int.reduceToNat, Int.reduceAdd, Int.reduceSub, Int.reduceMul, cond_true, cond_false, List.toList_toArray, Option.map_some, Option.map_none, Option.some.injEq, List.cons_append, List.nil_append, List.length_cons, List.length_nil, List.getD_cons_zero, List.getD_cons_succ, loadW]
                refine ⟨_, cellOf hcf, _, cellOf hcf, _, cellOf hcf, ?_⟩
                exact h1 _ _ hX.symm hMf
              · rw [if_neg (by simp [ht])] at hX
                simp (config := { maxSteps := 1000000 }) (disch := first | omega | (simp only [sizeAlloc, sizeDrew, sizeSet, sizePut] <;> omega) | fail) only [GS1, GS2, GS3, GS4, GS5, GS6, GS7, GS8, GS9, GS10, GS11, TT_eq, TTl, Nat.reduceAdd, Nat.reduceMul, Nat.reduceSub, Nat.reduceDiv, Nat.reduceMod, Nat.reducePow, Nat.reduceEqDiff, ↓reduceIte, reduceCtorEq, true_and, and_true, and_self, false_and, and_false, Int.reduceToNat, Int.reduceAdd, Int.reduceSub, Int.reduceMul, cond_true, cond_false, List.toList_toArray, Option.map_some, Option.map_none, Option.some.injEq, List.cons_append, List.nil_append, List.length_cons, List.length_nil, List.getD_cons_zero, List.getD_cons_succ]
                exact h0 hX.symm _ hMs2
            · rw [hv] at hX
              simp (config := { maxSteps := 1000000 }) (disch := first | omega | (simp only [sizeAlloc, sizeDrew, sizeSet, sizePut] <;> omega) | fail) only [GS1, GS2, GS3, GS4, GS5, GS6, GS7, GS8, GS9, GS10, GS11, TT_eq, TTl, Nat.reduceAdd, Nat.reduceMul, Nat.reduceSub, Nat.reduceDiv, Nat.reduceMod, Nat.reducePow, Nat.reduceEqDiff, ↓reduceIte, reduceCtorEq, true_and, and_true, and_self, false_and, and_false, Int.reduceToNat, Int.reduceAdd, Int.reduceSub, Int.reduceMul, cond_true, cond_false, List.toList_toArray, Option.map_some, Option.map_none, Option.some.injEq, List.cons_append, List.nil_append, List.length_cons, List.length_nil, List.getD_cons_zero, List.getD_cons_succ]
              exact h0 (by rw [← hX]; repeat (first | rfl | split)) _ (hMw17.trans hm (by simp))
          · rw [hv] at hX
            simp (config := { maxSteps := 1000000 }) (disch := first | omega | (simp only [sizeAlloc, sizeDrew, sizeSet, sizePut] <;> omega) | fail) only [GS1, GS2, GS3, GS4, GS5, GS6, GS7, GS8, GS9, GS10, GS11, TT_eq, TTl, Nat.reduceAdd, Nat.reduceMul, Nat.reduceSub, Nat.reduceDiv, Nat.reduceMod, Nat.reducePow, Nat.reduceEqDiff, ↓reduceIte, reduceCtorEq, true_and, and_true, and_self, false_and, and_false, Int.reduceToNat, Int.reduceAdd, Int.reduceSub, Int.reduceMul, cond_true, cond_false, List.toList_toArray, Option.map_some, Option.map_none, Option.some.injEq, List.cons_append, List.nil_append, List.length_cons, List.length_nil, List.getD_cons_zero, List.getD_cons_succ]
            exact h0 (by rw [← hX]; repeat (first | rfl | split)) _ (hMw16.trans hm (by simp))
      · rw [hv] at hX
        simp (config := { maxSteps := 1000000 }) (disch := first | omega | (simp only [sizeAlloc, sizeDrew, sizeSet, sizePut] <;> omega) | fail) only [GS1, GS2, GS3, GS4, GS5, GS6, GS7, GS8, GS9, GS10, GS11, TT_eq, TTl, Nat.reduceAdd, Nat.reduceMul, Nat.reduceSub, Nat.reduceDiv, Nat.reduceMod, Nat.reducePow, Nat.reduceEqDiff, ↓reduceIte, reduceCtorEq, true_and, and_true, and_self, false_and, and_false, Int.reduceToNat, Int.reduceAdd, Int.reduceSub, Int.reduceMul, cond_true, cond_false, List.toList_toArray, Option.map_some, Option.map_none, Option.some.injEq, List.cons_append, List.nil_append, List.length_cons, List.length_nil, List.getD_cons_zero, List.getD_cons_succ]
        exact h0 (by rw [← hX]; repeat (first | rfl | split)) _ (hMw3.trans hm (by simp))
    · refine ht_eff okT rfl rfl (v := .pointer (some ⟨w3.heap.size, 0, none⟩)) (w' := w3.alloc (.cells #[.int .i64 0, .int .i64 0, .int .i64 0] 23)) (by simp (config := { maxSteps := 1000000 }) only [GS1, GS2, GS3, GS4, GS5, GS6, GS7, GS8, GS9, GS10, GS11, TT_eq, TTl, Nat.reduceAdd, Nat.reduceMul, Nat.reduceSub, Nat.reduceDiv, Nat.reduceMod, Nat.reducePow, Nat.reduceEqDiff, ↓reduceIte, reduceCtorEq, true_and, and_true, and_self, false_and, and_false, Int.reduceToNat, Int.reduceAdd, Int.reduceSub, Int.reduceMul, cond_true, cond_false, List.toList_toArray, Option.map_some, Option.map_none, Option.some.injEq, List.cons_append, List.nil_append, List.length_cons, List.length_nil, List.getD_cons_zero, List.getD_cons_succ]) ?_ ?_ ht_stop
      all_goals have hm := (Mod.refl [] w3).alloc (.cells #[.int .i64 0, .int .i64 0, .int .i64 0] 23)
      all_goals have hcw19 := heapNew (w := w3) (o := .cells #[.int .i64 0, .int .i64 0, .int .i64 0] 23)
      all_goals generalize w3.alloc (.cells #[.int .i64 0, .int .i64 0, .int .i64 0] 23) = w19 at hm hcw19 ⊢
      · simp (config := { maxSteps := 1000000 }) only [GS1, GS2, GS3, GS4, GS5, GS6, GS7, GS8, GS9, GS10, GS11, TT_eq, TTl, Nat.reduceAdd, Nat.reduceMul, Nat.reduceSub, Nat.reduceDiv, Nat.reduceMod, Nat.reducePow, Nat.reduceEqDiff, ↓reduceIte, reduceCtorEq, true_and, and_true, and_self, false_and, and_false, Int.reduceToNat, Int.reduceAdd, Int.reduceSub, Int.reduceMul, cond_true, cond_false, List.toList_toArray, Option.map_some, Option.map_none, Option.some.injEq, List.cons_append, List.nil_append, List.length_cons, List.length_nil, List.getD_cons_zero, List.getD_cons_succ]
        exact ⟨cellM gw311 hm, cellM gw37 hm, cellM gw33 hm⟩
      have gw193 := cellM gw33 hm
      have gw197 := cellM gw37 hm
      have gw1911 := cellM gw311 hm
      have hnb : n < w3.heap.size := (Array.getElem?_eq_some_iff.1 hbw3).1
      have hbw19 := hm.get hbw3 (by simp)
      have hMw19 := hMw3.trans hm (by simp)
      clear hm
      have hwb := hMw3.size
      generalize w3.heap.size = b4 at hnb hwb hcw19 ⊢
      simp (config := { maxSteps := 1000000 }) only [GS1, GS2, GS3, GS4, GS5, GS6, GS7, GS8, GS9, GS10, GS11, TT_eq, TTl, Nat.reduceAdd, Nat.reduceMul, Nat.reduceSub, Nat.reduceDiv, Nat.reduceMod, Nat.reducePow, Nat.reduceEqDiff, ↓reduceIte, reduceCtorEq, true_and, and_true, and_self, false_and, and_false, Int.reduceToNat, Int.reduceAdd, Int.reduceSub, Int.reduceMul, cond_true, cond_false, List.toList_toArray, Option.map_some, Option.map_none, Option.some.injEq, List.cons_append, List.nil_append, List.length_cons, List.length_nil, List.getD_cons_zero, List.getD_cons_succ]
      refine ht_lin rfl (hold_dops okT (rs := [.cell 2 23]) rfl ?_)
      simp (config := { maxSteps := 1000000 }) (disch := first | omega | (simp only [sizeAlloc, sizeDrew, sizeSet, sizePut] <;> omega) | fail) only [GS1, GS2, GS3, GS4, GS5, GS6, GS7, GS8, GS9, GS10, GS11, TT_eq, TTl, Nat.reduceAdd, Nat.reduceMul, Nat.reduceSub, Nat.reduceDiv, Nat.reduceMod, Nat.reducePow, Nat.reduceEqDiff, ↓reduceIte, reduceCtorEq, true_and, and_true, and_self, false_and, and_false, Int.reduceToNat, Int.reduceAdd, Int.reduceSub, Int.reduceMul, cond_true, cond_false, List.toList_toArray, Option.map_some, Option.map_none, Option.some.injEq, List.cons_append, List.nil_append, List.length_cons, List.length_nil, List.getD_cons_zero, List.getD_cons_succ]
      refine ⟨fok100, wUnnum_cps t0 (by unfold maxLen; omega) _ _ (fun v3 w20 hv hm => .inl ⟨_, rfl, ⟨cellM gw1911 hm, cellM gw197 hm⟩, hold_dops okT (rs := [.cell 2 23]) rfl ?_⟩) (fun hv w20 hm => .inr ⟨_, rfl, fun fs' => hold_ex okT (rs := [.cell 2 23]) rfl ?_⟩)⟩
      · rw [hv] at hX
        have gw203 := cellM gw193 hm
        have gw207 := cellM gw197 hm
        have gw2011 := cellM gw1911 hm
        have hbw20 := hm.get hbw19 (by simp)
        have hMw20 := hMw19.trans hm (by simp)
        have hcw20 := hm.get hcw19 (by simp)
        clear hm hv
        simp (config := { maxSteps := 1000000 }) (disch := first | omega | (simp only [sizeAlloc, sizeDrew, sizeSet, sizePut] <;> omega) | fail) only [GS1, GS2, GS3, GS4, GS5, GS6, GS7, GS8, GS9, GS10, GS11, TT_eq, TTl, Nat.reduceAdd, Nat.reduceMul, Nat.reduceSub, Nat.reduceDiv, Nat.reduceMod, Nat.reducePow, Nat.reduceEqDiff, ↓reduceIte, reduceCtorEq, true_and, and_true, and_self, false_and, and_false, Int.reduceToNat, Int.reduceAdd, Int.reduceSub, Int.reduceMul, cond_true, cond_false, List.toList_toArray, Option.map_some, Option.map_none, Option.some.injEq, List.cons_append, List.nil_append, List.length_cons, List.length_nil, List.getD_cons_zero, List.getD_cons_succ]
        refine ⟨fok100, wUnnum_cps t1 (by unfold maxLen; omega) _ _ (fun v7 w21 hv hm => .inl ⟨_, rfl, cellM gw2011 hm, hold_dops okT (rs := [.cell 2 23]) rfl ?_⟩) (fun hv w21 hm => .inr ⟨_, rfl, fun fs' => hold_ex okT (rs := [.cell 2 23]) rfl ?_⟩)⟩
        · rw [hv] at hX
          have gw213 := cellM gw203 hm
          have gw217 := cellM gw207 hm
          have gw2111 := cellM gw2011 hm
          have hbw21 := hm.get hbw20 (by simp)
          have hMw21 := hMw20.trans hm (by simp)
          have hcw21 := hm.get hcw20 (by simp)
          clear hm hv
          simp (config := { maxSteps := 1000000 }) (disch := first | omega | (simp only [sizeAlloc, sizeDrew, sizeSet, sizePut] <;> omega) | fail) only [GS1, GS2, GS3, GS4, GS5, GS6, GS7, GS8, GS9, GS10, GS11, TT_eq, TTl, Nat.reduceAdd, Nat.reduceMul, Nat.reduceSub, Nat.reduceDiv, Nat.reduceMod, Nat.reducePow, Nat.reduceEqDiff, ↓reduceIte, reduceCtorEq, true_and, and_true, and_self, false_and, and_false, Int.reduceToNat, Int.reduceAdd, Int.reduceSub, Int.reduceMul, cond_true, cond_false, List.toList_toArray, Option.map_some, Option.map_none, Option.some.injEq, List.cons_append, List.nil_append, List.length_cons, List.length_nil, List.getD_cons_zero, List.getD_cons_succ]
          refine ⟨fok100, wUnnum_cps t2 (by unfold maxLen; omega) _ _ (fun v11 w22 hv hm => .inl ⟨_, rfl, hold_dops okT (rs := [.cell 2 23]) rfl ?_⟩) (fun hv w22 hm => .inr ⟨_, rfl, fun fs' => hold_ex okT (rs := [.cell 2 23]) rfl ?_⟩)⟩
          · rw [hv] at hX
            have gw223 := cellM gw213 hm
            have gw227 := cellM gw217 hm
            have gw2211 := cellM gw2111 hm
            have hbw22 := hm.get hbw21 (by simp)
            have hMw22 := hMw21.trans hm (by simp)
            have hcw22 := hm.get hcw21 (by simp)
            clear hm hv
            simp (config := { maxSteps := 1000000 }) (disch := first | omega | (simp only [sizeAlloc, sizeDrew, sizeSet, sizePut] <;> omega) | fail) only [GS1, GS2, GS3, GS4, GS5, GS6, GS7, GS8, GS9, GS10, GS11, TT_eq, TTl, Nat.reduceAdd, Nat.reduceMul, Nat.reduceSub, Nat.reduceDiv, Nat.reduceMod, Nat.reducePow, Nat.reduceEqDiff, ↓reduceIte, reduceCtorEq, true_and, and_true, and_self, false_and, and_false, Int.reduceToNat, Int.reduceAdd, Int.reduceSub, Int.reduceMul, cond_true, cond_false, List.toList_toArray, Option.map_some, Option.map_none, Option.some.injEq, List.cons_append, List.nil_append, List.length_cons, List.length_nil, List.getD_cons_zero, List.getD_cons_succ, cellOf hcw22, frozenOf hcw22]
            have hcs := st3 hcw22 (x := .int .i64 v3) (y := .int .i64 v7) (z := .int .i64 v11)
            have hbs : ((((w22).setCell ⟨b4, 0, none⟩ (.int .i64 v3)).setCell ⟨b4, 1, none⟩ (.int .i64 v7)).setCell ⟨b4, 2, none⟩ (.int .i64 v11)).heap[n]? = _ := heapSetNe (heapSetNe (heapSetNe hbw22 (by omega)) (by omega)) (by omega)
            have hMs : Mod [] w ((((w22).setCell ⟨b4, 0, none⟩ (.int .i64 v3)).setCell ⟨b4, 1, none⟩ (.int .i64 v7)).setCell ⟨b4, 2, none⟩ (.int .i64 v11)) := ((hMw22.set (.inr hwb) _).set (.inr hwb) _).set (.inr hwb) _
            generalize ((((w22).setCell ⟨b4, 0, none⟩ (.int .i64 v3)).setCell ⟨b4, 1, none⟩ (.int .i64 v7)).setCell ⟨b4, 2, none⟩ (.int .i64 v11)) = w20 at hcs hbs hMs ⊢
            refine ⟨fok46, wMayTxn_cps ((v3 : Int), (v7 : Int), (v11 : Int)) _ _ fun w21 hm2 => .inl ⟨_, rfl, hold_ops okT (rs := [.cell 2 23]) rfl ?_⟩⟩
            have hcs2 := hm2.get hcs (by simp)
            have hbs2 := hm2.get hbs (by simp)
            have hMs2 := hMs.trans hm2 (by simp)
            simp (config := { maxSteps := 1000000 }) (disch := first | omega | (simp only [sizeAlloc, sizeDrew, sizeSet, sizePut] <;> omega) | fail) only [GS1, GS2, GS3, GS4, GS5, GS6, GS7, GS8, GS9, GS10, GS11, TT_eq, TTl, Nat.reduceAdd, Nat.reduceMul, Nat.reduceSub, Nat.reduceDiv, Nat.reduceMod, Nat.reducePow, Nat.reduceEqDiff, ↓reduceIte, reduceCtorEq, true_and, and_true, and_self, false_and, and_false, Int.reduceToNat, Int.reduceAdd, Int.reduceSub, Int.reduceMul, cond_true, cond_false, List.toList_toArray, Option.map_some, Option.map_none, Option.some.injEq, List.cons_append, List.nil_append, List.length_cons, List.length_nil, List.getD_cons_zero, List.getD_cons_succ]
            simp only at hX
            refine ⟨fok95, wMust_cps _ _ _ (fun ht => .inl ⟨_, rfl, hold_ops okT (rs := [.cell 2 23]) rfl ?_⟩) (fun ht => .inr ⟨_, rfl, hold_ex okT (rs := [.cell 2 23]) rfl ?_⟩)⟩
            · rw [if_pos ht] at hX
              simp (config := { maxSteps := 1000000 }) (disch := first | omega | (simp only [sizeAlloc, sizeDrew, sizeSet, sizePut] <;> omega) | fail) only [GS1, GS2, GS3, GS4, GS5, GS6, GS7, GS8, GS9, GS10, GS11, TT_eq, TTl, Nat.reduceAdd, Nat.reduceMul, Nat.reduceSub, Nat.reduceDiv, Nat.reduceMod, Nat.reducePow, Nat.reduceEqDiff, ↓reduceIte, reduceCtorEq, true_and, and_true, and_self, false_and, and_false, Int.reduceToNat, Int.reduceAdd, Int.reduceSub, Int.reduceMul, cond_true, cond_false, List.toList_toArray, Option.map_some, Option.map_none, Option.some.injEq, List.cons_append, List.nil_append, List.length_cons, List.length_nil, List.getD_cons_zero, List.getD_cons_succ, cellOf hcs2, cellOf hbs2, frozenOf hbs2]
              have hcf := st3 hbs2 (x := .int .i64 v3) (y := .int .i64 v7) (z := .int .i64 v11)
              have hMf : Mod [] w ((((w21).setCell ⟨n, 0, none⟩ (.int .i64 v3)).setCell ⟨n, 1, none⟩ (.int .i64 v7)).setCell ⟨n, 2, none⟩ (.int .i64 v11)) := ((hMs2.set (.inr (by simp only; omega)) _).set (.inr (by simp only; omega)) _).set (.inr (by simp only; omega)) _
              generalize ((((w21).setCell ⟨n, 0, none⟩ (.int .i64 v3)).setCell ⟨n, 1, none⟩ (.int .i64 v7)).setCell ⟨n, 2, none⟩ (.int .i64 v11)) = w22 at hcf hMf ⊢
              simp (config := { maxSteps := 1000000 }) (disch := first | omega | (simp only [sizeAlloc, sizeDrew, sizeSet, sizePut] <;> omega) | fail) only [GS1, GS2, GS3, GS4, GS5, GS6, GS7, GS8, GS9, GS10, GS11, TT_eq, TTl, Nat.reduceAdd, Nat.reduceMul, Nat.reduceSub, Nat.reduceDiv, Nat.reduceMod, Nat.reducePow, Nat.reduceEqDiff, ↓reduceIte, reduceCtorEq, true_and, and_true, and_self, false_and, and_false, Int.reduceToNat, Int.reduceAdd, Int.reduceSub, Int.reduceMul, cond_true, cond_false, List.toList_toArray, Option.map_some, Option.map_none, Option.some.injEq, List.cons_append, List.nil_append, List.length_cons, List.length_nil, List.getD_cons_zero, List.getD_cons_succ, loadW]
              refine ⟨_, cellOf hcf, _, cellOf hcf, _, cellOf hcf, ?_⟩
              exact h1 _ _ hX.symm hMf
            · rw [if_neg (by simp [ht])] at hX
              simp (config := { maxSteps := 1000000 }) (disch := first | omega | (simp only [sizeAlloc, sizeDrew, sizeSet, sizePut] <;> omega) | fail) only [GS1, GS2, GS3, GS4, GS5, GS6, GS7, GS8, GS9, GS10, GS11, TT_eq, TTl, Nat.reduceAdd, Nat.reduceMul, Nat.reduceSub, Nat.reduceDiv, Nat.reduceMod, Nat.reducePow, Nat.reduceEqDiff, ↓reduceIte, reduceCtorEq, true_and, and_true, and_self, false_and, and_false, Int.reduceToNat, Int.reduceAdd, Int.reduceSub, Int.reduceMul, cond_true, cond_false, List.toList_toArray, Option.map_some, Option.map_none, Option.some.injEq, List.cons_append, List.nil_append, List.length_cons, List.length_nil, List.getD_cons_zero, List.getD_cons_succ]
              exact h0 hX.symm _ hMs2
          · rw [hv] at hX
            simp (config := { maxSteps := 1000000 }) (disch := first | omega | (simp only [sizeAlloc, sizeDrew, sizeSet, sizePut] <;> omega) | fail) only [GS1, GS2, GS3, GS4, GS5, GS6, GS7, GS8, GS9, GS10, GS11, TT_eq, TTl, Nat.reduceAdd, Nat.reduceMul, Nat.reduceSub, Nat.reduceDiv, Nat.reduceMod, Nat.reducePow, Nat.reduceEqDiff, ↓reduceIte, reduceCtorEq, true_and, and_true, and_self, false_and, and_false, Int.reduceToNat, Int.reduceAdd, Int.reduceSub, Int.reduceMul, cond_true, cond_false, List.toList_toArray, Option.map_some, Option.map_none, Option.some.injEq, List.cons_append, List.nil_append, List.length_cons, List.length_nil, List.getD_cons_zero, List.getD_cons_succ]
            exact h0 (by rw [← hX]; repeat (first | rfl | split)) _ (hMw21.trans hm (by simp))
        · rw [hv] at hX
          simp (config := { maxSteps := 1000000 }) (disch := first | omega | (simp only [sizeAlloc, sizeDrew, sizeSet, sizePut] <;> omega) | fail) only [GS1, GS2, GS3, GS4, GS5, GS6, GS7, GS8, GS9, GS10, GS11, TT_eq, TTl, Nat.reduceAdd, Nat.reduceMul, Nat.reduceSub, Nat.reduceDiv, Nat.reduceMod, Nat.reducePow, Nat.reduceEqDiff, ↓reduceIte, reduceCtorEq, true_and, and_true, and_self, false_and, and_false, Int.reduceToNat, Int.reduceAdd, Int.reduceSub, Int.reduceMul, cond_true, cond_false, List.toList_toArray, Option.map_some, Option.map_none, Option.some.injEq, List.cons_append, List.nil_append, List.length_cons, List.length_nil, List.getD_cons_zero, List.getD_cons_succ]
          exact h0 (by rw [← hX]; repeat (first | rfl | split)) _ (hMw20.trans hm (by simp))
      · rw [hv] at hX
        simp (config := { maxSteps := 1000000 }) (disch := first | omega | (simp only [sizeAlloc, sizeDrew, sizeSet, sizePut] <;> omega) | fail) only [GS1, GS2, GS3, GS4, GS5, GS6, GS7, GS8, GS9, GS10, GS11, TT_eq, TTl, Nat.reduceAdd, Nat.reduceMul, Nat.reduceSub, Nat.reduceDiv, Nat.reduceMod, Nat.reducePow, Nat.reduceEqDiff, ↓reduceIte, reduceCtorEq, true_and, and_true, and_self, false_and, and_false, Int.reduceToNat, Int.reduceAdd, Int.reduceSub, Int.reduceMul, cond_true, cond_false, List.toList_toArray, Option.map_some, Option.map_none, Option.some.injEq, List.cons_append, List.nil_append, List.length_cons, List.length_nil, List.getD_cons_zero, List.getD_cons_succ]
        exact h0 (by rw [← hX]; repeat (first | rfl | split)) _ (hMw19.trans hm (by simp))
  · rw [hp] at hX
    simp (config := { maxSteps := 1000000 }) (disch := first | omega | (simp only [sizeAlloc, sizeDrew, sizeSet, sizePut] <;> omega) | fail) only [GS1, GS2, GS3, GS4, GS5, GS6, GS7, GS8, GS9, GS10, GS11, TT_eq, TTl, Nat.reduceAdd, Nat.reduceMul, Nat.reduceSub, Nat.reduceDiv, Nat.reduceMod, Nat.reducePow, Nat.reduceEqDiff, ↓reduceIte, reduceCtorEq, true_and, and_true, and_self, false_and, and_false, Int.reduceToNat, Int.reduceAdd, Int.reduceSub, Int.reduceMul, cond_true, cond_false, List.toList_toArray, Option.map_some, Option.map_none, Option.some.injEq, List.cons_append, List.nil_append, List.length_cons, List.length_nil, List.getD_cons_zero, List.getD_cons_succ]
    exact h0 hX.symm _ (hM.trans hM2 (by simp))
end Go.Proofs.Ytpcilobbohokcaa
