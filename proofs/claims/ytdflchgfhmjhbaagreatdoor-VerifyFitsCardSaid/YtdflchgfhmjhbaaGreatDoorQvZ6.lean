/-
  wire.untxn (walk). wire: what the terms of rows, numbers, transactions and members say (plain). wire: members and transactions that come in. chirographref12.SameMembers (walk). chirographlaw12.Long (walk). The reference's members (walks). ballot: where a member stands (a range over a function, left by a break); Check; the reference's May of a ballot (walks).
-/
import Derived.Test.YtdflchgfhmjhbaaGreatDoorQvW1
import Derived.Test.YtdflchgfhmjhbaaGreatDoorQvTrp
import Derived.Test.YtdflchgfhmjhbaaGreatDoorQvRd
import Derived.Test.YtdflchgfhmjhbaaGreatDoorQvZ2
import Derived.Test.YtdflchgfhmjhbaaGreatDoorQvZ0
set_option linter.unusedSimpArgs false
set_option linter.unusedVariables false
namespace Go.Proofs.YtdflchgfhmjhbaaGreatDoor
set_option maxHeartbeats 8000000
set_option maxRecDepth 20000
open Go Go.Wk Go.RowKit
attribute [local irreducible] go Hold
open Go.Lib
def untxO (S : List UInt8) : Option Tx := match rowO S 3 3 with
  | some l => (match numT (l.getD 0 []), numT (l.getD 1 []), numT (l.getD 2 []) with
    | some a, some b, some c => if txB ((a : Int), (b : Int), (c : Int)) = true then some ((a : Int), (b : Int), (c : Int)) else none
    | _, _, _ => none)
  | none => none
theorem st3 {w : World} {p t : Nat} {a b c x y z : Value} (h : w.heap[p]? = some (.cells #[a, b, c] t)) : (((w.setCell ⟨p, 0, none⟩ x).setCell ⟨p, 1, none⟩ y).setCell ⟨p, 2, none⟩ z).heap[p]? = some (.cells #[x, y, z] t) := by
  rw [heapSet (heapSet (heapSet h))]; rfl
theorem st6 {w : World} {p t : Nat} {a b c d e f x y z u v q : Value} (h : w.heap[p]? = some (.cells #[a, b, c, d, e, f] t)) : ((((((w.setCell ⟨p, 0, none⟩ x).setCell ⟨p, 1, none⟩ y).setCell ⟨p, 2, none⟩ z).setCell ⟨p, 3, none⟩ u).setCell ⟨p, 4, none⟩ v).setCell ⟨p, 5, none⟩ q).heap[p]? = some (.cells #[x, y, z, u, v, q] t) := by
  rw [heapSet (heapSet (heapSet (heapSet (heapSet (heapSet h)))))]; rfl
theorem cellM {w w' : World} {b o : Nat} {v : Value} (h : w.cell? ⟨b, o, none⟩ = some v) (hm : Mod [] w w') : w'.cell? ⟨b, o, none⟩ = some v := by
  rw [World.cell?_of_block (w := w) (hm.block b (World.block_lt_of_cell? w _ h) (by simp))]
  exact h
theorem wUntxn_cps (S : List UInt8) (hS : S.length ≤ maxLen) (w : World) (R : Ending → World → Prop) (h1 : ∀ x w', untxO S = some x → Mod [] w w' → R (.returned (txV x)) w') (h0 : untxO S = none → ∀ w', Mod [] w w' → R (.panicked wnoneV) w') :
    Calls Tryz.prog 140 #[.string ⟨S.toArray⟩] w R := by
  generalize hX : untxO S = X at h1 h0
  unfold untxO at hX
  refine calls_go 4000 okT Tryz.func140 rfl (rs := [.cell 2 23]) rfl Tryz.ntmps140 (args := [.string ⟨S.toArray⟩]) ?_
  simp (maxSteps := 1000000) (disch := first | omega | (simp only [sizeAlloc, sizeDrew, sizeSet, sizePut] <;> omega) | fail) only [GS, TT_eq, TTl, Nat.reduceAdd, Nat.reduceMul, Nat.reduceSub, Nat.reduceDiv, Nat.reduceMod, Nat.reducePow, Nat.reduceEqDiff, ↓reduceIte, reduceCtorEq, Int.reduceToNat, Int.reduceAdd, Int.reduceSub, Int.reduceMul]
  have hM := (Mod.refl [] w).alloc (.cells #[.int .i64 0, .int .i64 0, .int .i64 0] 23)
  have hb := heapNew (w := w) (o := .cells #[.int .i64 0, .int .i64 0, .int .i64 0] 23)
  generalize w.alloc (.cells #[.int .i64 0, .int .i64 0, .int .i64 0] 23) = w1 at hM hb ⊢
  generalize hn : w.heap.size = n at *
  refine ⟨fok139, wRow_cps S 3 3 (by decide) (by decide) hS _ _ (fun l lv w2 hp hpo hM2 => .inl ⟨_, rfl, hold_ops okT (rs := [.cell 2 23]) rfl ?_⟩) (fun hp w2 hM2 => .inr ⟨_, rfl, hold_ex okT (rs := [.cell 2 23]) rfl ?_⟩)⟩
  · rw [hp] at hX
    obtain ⟨hpc, hp1, hp3, -, -⟩ := rowO_ok hp
    obtain ⟨t0, t1, t2, rfl⟩ := len3 (show l.length = 3 by omega)
    simp only [List.getD_cons_zero, List.getD_cons_succ] at hX
    have z0 := (check0 (hpc t0 (by simp))).2.2.1
    have z1 := (check0 (hpc t1 (by simp))).2.2.1
    have z2 := (check0 (hpc t2 (by simp))).2.2.1
    obtain ⟨b2, o2, c2, e2, _, g2⟩ := (Rd.own hpo).at (by omega) (by simp)
    have f0 : w2.cell? ⟨b2, o2, none⟩ = some (.string ⟨t0.toArray⟩) := g2 0 _ rfl
    have f1 : w2.cell? ⟨b2, o2 + 1, none⟩ = some (.string ⟨t1.toArray⟩) := g2 1 _ rfl
    have f2 : w2.cell? ⟨b2, o2 + 2, none⟩ = some (.string ⟨t2.toArray⟩) := g2 2 _ rfl
    subst e2
    have hb2 := hM2.get hb (by simp)
    have hM02 := hM.trans hM2 (by simp)
    simp (maxSteps := 1000000) (disch := first | omega | (simp only [sizeAlloc, sizeDrew, sizeSet, sizePut] <;> omega) | fail) only [GS, TT_eq, TTl, Nat.reduceAdd, Nat.reduceMul, Nat.reduceSub, Nat.reduceDiv, Nat.reduceMod, Nat.reducePow, Nat.reduceEqDiff, ↓reduceIte, reduceCtorEq, Int.reduceToNat, Int.reduceAdd, Int.reduceSub, Int.reduceMul]
    refine hold_tree okT [0, 1, 3, 7, 0, 16, 48, 127, 0, 256, 768, 2047, 4095, 0, 16383] (.qop 0 (.qop 1 (.qop 2 (.qop 4 (.qop 5 (.qop 6 (.qop 8 (.qop 9 (.qop 10 (.eff 3 (.eff 7 (.eff 11 (.lin [12, 13, 14]) (.eff 13 (.lin [11, 12, 14]) .stop)) (.eff 13 (.lin [7, 11, 12, 14]) .stop)) (.eff 13 (.lin [3, 7, 11, 12, 14]) .stop))))))))))) (by kernel_rfl) ?_
    have f0' : (w2.drewN 1).cell? ⟨b2, o2, none⟩ = some (.string ⟨t0.toArray⟩) := f0
    have f1' : (w2.drewN 1).cell? ⟨b2, o2 + 1, none⟩ = some (.string ⟨t1.toArray⟩) := f1
    have f2' : (w2.drewN 1).cell? ⟨b2, o2 + 2, none⟩ = some (.string ⟨t2.toArray⟩) := f2
    have hb3 : (w2.drewN 1).heap[n]? = _ := hb2
    have hM3 := hM02.drewN 1
    generalize w2.drewN 1 = w3 at *
    clear f0 f1 f2 hb2 hpo g2
    refine ht_val okT rfl rfl (v := .slice (some ⟨b2, o2, none⟩) 3 c2) (by simp (maxSteps := 1000000) only [GS, TT_eq, TTl, Nat.reduceAdd, Nat.reduceMul, Nat.reduceSub, Nat.reduceDiv, Nat.reduceMod, Nat.reducePow, Nat.reduceEqDiff, ↓reduceIte, reduceCtorEq, Int.reduceToNat, Int.reduceAdd, Int.reduceSub, Int.reduceMul]) ?_
    refine ht_val okT rfl rfl (v := .pointer (some ⟨b2, o2, none⟩)) (by simp (maxSteps := 1000000) (disch := first | omega | (simp only [sizeAlloc, sizeDrew, sizeSet, sizePut] <;> omega) | fail) only [GS, TT_eq, TTl, Nat.reduceAdd, Nat.reduceMul, Nat.reduceSub, Nat.reduceDiv, Nat.reduceMod, Nat.reducePow, Nat.reduceEqDiff, ↓reduceIte, reduceCtorEq, Int.reduceToNat, Int.reduceAdd, Int.reduceSub, Int.reduceMul]) ?_
    refine ht_val okT rfl rfl (v := .string ⟨t0.toArray⟩) (by simp (maxSteps := 1000000) (disch := first | omega | (simp only [sizeAlloc, sizeDrew, sizeSet, sizePut] <;> omega) | fail) only [GS, TT_eq, TTl, Nat.reduceAdd, Nat.reduceMul, Nat.reduceSub, Nat.reduceDiv, Nat.reduceMod, Nat.reducePow, Nat.reduceEqDiff, ↓reduceIte, reduceCtorEq, Int.reduceToNat, Int.reduceAdd, Int.reduceSub, Int.reduceMul, f0']) ?_
    refine ht_val okT rfl rfl (v := .slice (some ⟨b2, o2, none⟩) 3 c2) (by simp (maxSteps := 1000000) only [GS, TT_eq, TTl, Nat.reduceAdd, Nat.reduceMul, Nat.reduceSub, Nat.reduceDiv, Nat.reduceMod, Nat.reducePow, Nat.reduceEqDiff, ↓reduceIte, reduceCtorEq, Int.reduceToNat, Int.reduceAdd, Int.reduceSub, Int.reduceMul]) ?_
    refine ht_val okT rfl rfl (v := .pointer (some ⟨b2, o2 + 1, none⟩)) (by simp (maxSteps := 1000000) (disch := first | omega | (simp only [sizeAlloc, sizeDrew, sizeSet, sizePut] <;> omega) | fail) only [GS, TT_eq, TTl, Nat.reduceAdd, Nat.reduceMul, Nat.reduceSub, Nat.reduceDiv, Nat.reduceMod, Nat.reducePow, Nat.reduceEqDiff, ↓reduceIte, reduceCtorEq, Int.reduceToNat, Int.reduceAdd, Int.reduceSub, Int.reduceMul]) ?_
    refine ht_val okT rfl rfl (v := .string ⟨t1.toArray⟩) (by simp (maxSteps := 1000000) (disch := first | omega | (simp only [sizeAlloc, sizeDrew, sizeSet, sizePut] <;> omega) | fail) only [GS, TT_eq, TTl, Nat.reduceAdd, Nat.reduceMul, Nat.reduceSub, Nat.reduceDiv, Nat.reduceMod, Nat.reducePow, Nat.reduceEqDiff, ↓reduceIte, reduceCtorEq, Int.reduceToNat, Int.reduceAdd, Int.reduceSub, Int.reduceMul, f1']) ?_
    refine ht_val okT rfl rfl (v := .slice (some ⟨b2, o2, none⟩) 3 c2) (by simp (maxSteps := 1000000) only [GS, TT_eq, TTl, Nat.reduceAdd, Nat.reduceMul, Nat.reduceSub, Nat.reduceDiv, Nat.reduceMod, Nat.reducePow, Nat.reduceEqDiff, ↓reduceIte, reduceCtorEq, Int.reduceToNat, Int.reduceAdd, Int.reduceSub, Int.reduceMul]) ?_
    refine ht_val okT rfl rfl (v := .pointer (some ⟨b2, o2 + 2, none⟩)) (by simp (maxSteps := 1000000) (disch := first | omega | (simp only [sizeAlloc, sizeDrew, sizeSet, sizePut] <;> omega) | fail) only [GS, TT_eq, TTl, Nat.reduceAdd, Nat.reduceMul, Nat.reduceSub, Nat.reduceDiv, Nat.reduceMod, Nat.reducePow, Nat.reduceEqDiff, ↓reduceIte, reduceCtorEq, Int.reduceToNat, Int.reduceAdd, Int.reduceSub, Int.reduceMul]) ?_
    refine ht_val okT rfl rfl (v := .string ⟨t2.toArray⟩) (by simp (maxSteps := 1000000) (disch := first | omega | (simp only [sizeAlloc, sizeDrew, sizeSet, sizePut] <;> omega) | fail) only [GS, TT_eq, TTl, Nat.reduceAdd, Nat.reduceMul, Nat.reduceSub, Nat.reduceDiv, Nat.reduceMod, Nat.reducePow, Nat.reduceEqDiff, ↓reduceIte, reduceCtorEq, Int.reduceToNat, Int.reduceAdd, Int.reduceSub, Int.reduceMul, f2']) ?_
    simp (maxSteps := 1000000) only [GS, TT_eq, TTl, Nat.reduceAdd, Nat.reduceMul, Nat.reduceSub, Nat.reduceDiv, Nat.reduceMod, Nat.reducePow, Nat.reduceEqDiff, ↓reduceIte, reduceCtorEq, Int.reduceToNat, Int.reduceAdd, Int.reduceSub, Int.reduceMul]
    have gw33 := f0'
    have gw37 := f1'
    have gw311 := f2'
    have hbw3 := hb3
    have hMw3 := hM3
    clear f0' f1' f2' hb3 hM3
    refine ht_call okT rfl rfl ?_ ?_
    · simp (maxSteps := 1000000) (disch := first | omega | (simp only [sizeAlloc, sizeDrew, sizeSet, sizePut] <;> omega) | fail) only [GS, TT_eq, TTl, Nat.reduceAdd, Nat.reduceMul, Nat.reduceSub, Nat.reduceDiv, Nat.reduceMod, Nat.reducePow, Nat.reduceEqDiff, ↓reduceIte, reduceCtorEq, Int.reduceToNat, Int.reduceAdd, Int.reduceSub, Int.reduceMul]
      refine ⟨fok120, wUnnum_cps t0 (by unfold maxLen; omega) _ _ (fun v3 w11 hv hm => .inl ⟨_, rfl, ⟨cellM gw311 hm, cellM gw37 hm⟩, ?_⟩) (fun hv w11 hm => .inr ⟨_, rfl, fun fs' => hold_ex okT (rs := [.cell 2 23]) rfl ?_⟩)⟩
      · rw [hv] at hX
        have gw113 := cellM gw33 hm
        have gw117 := cellM gw37 hm
        have gw1111 := cellM gw311 hm
        have hbw11 := hm.get hbw3 (by simp)
        have hMw11 := hMw3.trans hm (by simp)
        clear hm hv
        refine ht_call okT rfl rfl ?_ ?_
        · simp (maxSteps := 1000000) (disch := first | omega | (simp only [sizeAlloc, sizeDrew, sizeSet, sizePut] <;> omega) | fail) only [GS, TT_eq, TTl, Nat.reduceAdd, Nat.reduceMul, Nat.reduceSub, Nat.reduceDiv, Nat.reduceMod, Nat.reducePow, Nat.reduceEqDiff, ↓reduceIte, reduceCtorEq, Int.reduceToNat, Int.reduceAdd, Int.reduceSub, Int.reduceMul]
          refine ⟨fok120, wUnnum_cps t1 (by unfold maxLen; omega) _ _ (fun v7 w12 hv hm => .inl ⟨_, rfl, cellM gw1111 hm, ?_⟩) (fun hv w12 hm => .inr ⟨_, rfl, fun fs' => hold_ex okT (rs := [.cell 2 23]) rfl ?_⟩)⟩
          · rw [hv] at hX
            have gw123 := cellM gw113 hm
            have gw127 := cellM gw117 hm
            have gw1211 := cellM gw1111 hm
            have hbw12 := hm.get hbw11 (by simp)
            have hMw12 := hMw11.trans hm (by simp)
            clear hm hv
            refine ht_call okT rfl rfl ?_ ?_
            · simp (maxSteps := 1000000) (disch := first | omega | (simp only [sizeAlloc, sizeDrew, sizeSet, sizePut] <;> omega) | fail) only [GS, TT_eq, TTl, Nat.reduceAdd, Nat.reduceMul, Nat.reduceSub, Nat.reduceDiv, Nat.reduceMod, Nat.reducePow, Nat.reduceEqDiff, ↓reduceIte, reduceCtorEq, Int.reduceToNat, Int.reduceAdd, Int.reduceSub, Int.reduceMul]
              refine ⟨fok120, wUnnum_cps t2 (by unfold maxLen; omega) _ _ (fun v11 w13 hv hm => .inl ⟨_, rfl, ?_⟩) (fun hv w13 hm => .inr ⟨_, rfl, fun fs' => hold_ex okT (rs := [.cell 2 23]) rfl ?_⟩)⟩
              · rw [hv] at hX
                have gw133 := cellM gw123 hm
                have gw137 := cellM gw127 hm
                have gw1311 := cellM gw1211 hm
                have hbw13 := hm.get hbw12 (by simp)
                have hMw13 := hMw12.trans hm (by simp)
                clear hm hv
                refine ht_lin rfl (hold_dops okT (rs := [.cell 2 23]) rfl ?_)
                simp (maxSteps := 1000000) (disch := first | omega | (simp only [sizeAlloc, sizeDrew, sizeSet, sizePut] <;> omega) | fail) only [GS, TT_eq, TTl, Nat.reduceAdd, Nat.reduceMul, Nat.reduceSub, Nat.reduceDiv, Nat.reduceMod, Nat.reducePow, Nat.reduceEqDiff, ↓reduceIte, reduceCtorEq, Int.reduceToNat, Int.reduceAdd, Int.reduceSub, Int.reduceMul]
                have hm := (Mod.refl [] w13).alloc (.cells #[.int .i64 0, .int .i64 0, .int .i64 0] 23)
                have hcs := st3 (heapNew (w := w13) (o := .cells #[.int .i64 0, .int .i64 0, .int .i64 0] 23)) (x := .int .i64 v3) (y := .int .i64 v7) (z := .int .i64 v11)
                have hwb := hMw13.size
                have hnb : n < w13.heap.size := (Array.getElem?_eq_some_iff.1 hbw13).1
                have hbs : ((((w13.alloc (.cells #[.int .i64 0, .int .i64 0, .int .i64 0] 23)).setCell ⟨w13.heap.size, 0, none⟩ (.int .i64 v3)).setCell ⟨w13.heap.size, 1, none⟩ (.int .i64 v7)).setCell ⟨w13.heap.size, 2, none⟩ (.int .i64 v11)).heap[n]? = _ := heapSetNe (heapSetNe (heapSetNe (hm.get hbw13 (by simp)) (by omega)) (by omega)) (by omega)
                have hMs : Mod [] w ((((w13.alloc (.cells #[.int .i64 0, .int .i64 0, .int .i64 0] 23)).setCell ⟨w13.heap.size, 0, none⟩ (.int .i64 v3)).setCell ⟨w13.heap.size, 1, none⟩ (.int .i64 v7)).setCell ⟨w13.heap.size, 2, none⟩ (.int .i64 v11)) := (((hMw13.alloc _).set (.inr hwb) _).set (.inr hwb) _).set (.inr hwb) _
                generalize ((((w13.alloc (.cells #[.int .i64 0, .int .i64 0, .int .i64 0] 23)).setCell ⟨w13.heap.size, 0, none⟩ (.int .i64 v3)).setCell ⟨w13.heap.size, 1, none⟩ (.int .i64 v7)).setCell ⟨w13.heap.size, 2, none⟩ (.int .i64 v11)) = w20 at hcs hbs hMs ⊢
                generalize w13.heap.size = b4 at hnb hwb hcs hbs hMs ⊢
                refine ⟨⟨cellM gw1311 hm, cellM gw137 hm, cellM gw133 hm⟩, fok73, wMayTxn_cps ((v3 : Int), (v7 : Int), (v11 : Int)) _ _ fun w21 hm2 => .inl ⟨_, rfl, hold_ops okT (rs := [.cell 2 23]) rfl ?_⟩⟩
                have hcs2 := hm2.get hcs (by simp)
                have hbs2 := hm2.get hbs (by simp)
                have hMs2 := hMs.trans hm2 (by simp)
                simp (maxSteps := 1000000) (disch := first | omega | (simp only [sizeAlloc, sizeDrew, sizeSet, sizePut] <;> omega) | fail) only [GS, TT_eq, TTl, Nat.reduceAdd, Nat.reduceMul, Nat.reduceSub, Nat.reduceDiv, Nat.reduceMod, Nat.reducePow, Nat.reduceEqDiff, ↓reduceIte, reduceCtorEq, Int.reduceToNat, Int.reduceAdd, Int.reduceSub, Int.reduceMul]
                simp only at hX
                refine ⟨fok127, wMust_cps _ _ _ (fun ht => .inl ⟨_, rfl, hold_ops okT (rs := [.cell 2 23]) rfl ?_⟩) (fun ht => .inr ⟨_, rfl, hold_ex okT (rs := [.cell 2 23]) rfl ?_⟩)⟩
                · rw [if_pos ht] at hX
                  simp (maxSteps := 1000000) (disch := first | omega | (simp only [sizeAlloc, sizeDrew, sizeSet, sizePut] <;> omega) | fail) only [GS, TT_eq, TTl, Nat.reduceAdd, Nat.reduceMul, Nat.reduceSub, Nat.reduceDiv, Nat.reduceMod, Nat.reducePow, Nat.reduceEqDiff, ↓reduceIte, reduceCtorEq, Int.reduceToNat, Int.reduceAdd, Int.reduceSub, Int.reduceMul, cellOf hcs2, cellOf hbs2, frozenOf hbs2]
                  have hcf := st3 hbs2 (x := .int .i64 v3) (y := .int .i64 v7) (z := .int .i64 v11)
                  have hMf : Mod [] w ((((w21).setCell ⟨n, 0, none⟩ (.int .i64 v3)).setCell ⟨n, 1, none⟩ (.int .i64 v7)).setCell ⟨n, 2, none⟩ (.int .i64 v11)) := ((hMs2.set (.inr (by simp only; omega)) _).set (.inr (by simp only; omega)) _).set (.inr (by simp only; omega)) _
                  generalize ((((w21).setCell ⟨n, 0, none⟩ (.int .i64 v3)).setCell ⟨n, 1, none⟩ (.int .i64 v7)).setCell ⟨n, 2, none⟩ (.int .i64 v11)) = w22 at hcf hMf ⊢
                  simp (maxSteps := 1000000) (disch := first | omega | (simp only [sizeAlloc, sizeDrew, sizeSet, sizePut] <;> omega) | fail) only [GS, TT_eq, TTl, Nat.reduceAdd, Nat.reduceMul, Nat.reduceSub, Nat.reduceDiv, Nat.reduceMod, Nat.reducePow, Nat.reduceEqDiff, ↓reduceIte, reduceCtorEq, Int.reduceToNat, Int.reduceAdd, Int.reduceSub, Int.reduceMul, loadW]
                  refine ⟨_, cellOf hcf, _, cellOf hcf, _, cellOf hcf, ?_⟩
                  exact h1 _ _ hX.symm hMf
                · rw [if_neg (by simp [ht])] at hX
                  simp (maxSteps := 1000000) (disch := first | omega | (simp only [sizeAlloc, sizeDrew, sizeSet, sizePut] <;> omega) | fail) only [GS, TT_eq, TTl, Nat.reduceAdd, Nat.reduceMul, Nat.reduceSub, Nat.reduceDiv, Nat.reduceMod, Nat.reducePow, Nat.reduceEqDiff, ↓reduceIte, reduceCtorEq, Int.reduceToNat, Int.reduceAdd, Int.reduceSub, Int.reduceMul]
                  exact h0 hX.symm _ hMs2
              · rw [hv] at hX
                simp (maxSteps := 1000000) (disch := first | omega | (simp only [sizeAlloc, sizeDrew, sizeSet, sizePut] <;> omega) | fail) only [GS, TT_eq, TTl, Nat.reduceAdd, Nat.reduceMul, Nat.reduceSub, Nat.reduceDiv, Nat.reduceMod, Nat.reducePow, Nat.reduceEqDiff, ↓reduceIte, reduceCtorEq, Int.reduceToNat, Int.reduceAdd, Int.reduceSub, Int.reduceMul]
                exact h0 (by rw [← hX]; repeat (first | rfl | split)) _ (hMw12.trans hm (by simp))
            · refine ht_eff okT rfl rfl (v := .pointer (some ⟨w12.heap.size, 0, none⟩)) (w' := w12.alloc (.cells #[.int .i64 0, .int .i64 0, .int .i64 0] 23)) (by simp (maxSteps := 1000000) only [GS, TT_eq, TTl, Nat.reduceAdd, Nat.reduceMul, Nat.reduceSub, Nat.reduceDiv, Nat.reduceMod, Nat.reducePow, Nat.reduceEqDiff, ↓reduceIte, reduceCtorEq, Int.reduceToNat, Int.reduceAdd, Int.reduceSub, Int.reduceMul]) ?_ ?_ ht_stop
              all_goals have hm := (Mod.refl [] w12).alloc (.cells #[.int .i64 0, .int .i64 0, .int .i64 0] 23)
              all_goals have hcw14 := heapNew (w := w12) (o := .cells #[.int .i64 0, .int .i64 0, .int .i64 0] 23)
              all_goals generalize w12.alloc (.cells #[.int .i64 0, .int .i64 0, .int .i64 0] 23) = w14 at hm hcw14 ⊢
              · simp (maxSteps := 1000000) only [GS, TT_eq, TTl, Nat.reduceAdd, Nat.reduceMul, Nat.reduceSub, Nat.reduceDiv, Nat.reduceMod, Nat.reducePow, Nat.reduceEqDiff, ↓reduceIte, reduceCtorEq, Int.reduceToNat, Int.reduceAdd, Int.reduceSub, Int.reduceMul]
                exact ⟨cellM gw1211 hm, cellM gw127 hm, cellM gw123 hm⟩
              have gw143 := cellM gw123 hm
              have gw147 := cellM gw127 hm
              have gw1411 := cellM gw1211 hm
              have hnb : n < w12.heap.size := (Array.getElem?_eq_some_iff.1 hbw12).1
              have hbw14 := hm.get hbw12 (by simp)
              have hMw14 := hMw12.trans hm (by simp)
              clear hm
              have hwb := hMw12.size
              generalize w12.heap.size = b4 at hnb hwb hcw14 ⊢
              simp (maxSteps := 1000000) only [GS, TT_eq, TTl, Nat.reduceAdd, Nat.reduceMul, Nat.reduceSub, Nat.reduceDiv, Nat.reduceMod, Nat.reducePow, Nat.reduceEqDiff, ↓reduceIte, reduceCtorEq, Int.reduceToNat, Int.reduceAdd, Int.reduceSub, Int.reduceMul]
              refine ht_lin rfl (hold_dops okT (rs := [.cell 2 23]) rfl ?_)
              simp (maxSteps := 1000000) (disch := first | omega | (simp only [sizeAlloc, sizeDrew, sizeSet, sizePut] <;> omega) | fail) only [GS, TT_eq, TTl, Nat.reduceAdd, Nat.reduceMul, Nat.reduceSub, Nat.reduceDiv, Nat.reduceMod, Nat.reducePow, Nat.reduceEqDiff, ↓reduceIte, reduceCtorEq, Int.reduceToNat, Int.reduceAdd, Int.reduceSub, Int.reduceMul]
              refine ⟨fok120, wUnnum_cps t2 (by unfold maxLen; omega) _ _ (fun v11 w15 hv hm => .inl ⟨_, rfl, hold_dops okT (rs := [.cell 2 23]) rfl ?_⟩) (fun hv w15 hm => .inr ⟨_, rfl, fun fs' => hold_ex okT (rs := [.cell 2 23]) rfl ?_⟩)⟩
              · rw [hv] at hX
                have gw153 := cellM gw143 hm
                have gw157 := cellM gw147 hm
                have gw1511 := cellM gw1411 hm
                have hbw15 := hm.get hbw14 (by simp)
                have hMw15 := hMw14.trans hm (by simp)
                have hcw15 := hm.get hcw14 (by simp)
                clear hm hv
                simp (maxSteps := 1000000) (disch := first | omega | (simp only [sizeAlloc, sizeDrew, sizeSet, sizePut] <;> omega) | fail) only [GS, TT_eq, TTl, Nat.reduceAdd, Nat.reduceMul, Nat.reduceSub, Nat.reduceDiv, Nat.reduceMod, Nat.reducePow, Nat.reduceEqDiff, ↓reduceIte, reduceCtorEq, Int.reduceToNat, Int.reduceAdd, Int.reduceSub, Int.reduceMul, cellOf hcw15, frozenOf hcw15]
                have hcs := st3 hcw15 (x := .int .i64 v3) (y := .int .i64 v7) (z := .int .i64 v11)
                have hbs : ((((w15).setCell ⟨b4, 0, none⟩ (.int .i64 v3)).setCell ⟨b4, 1, none⟩ (.int .i64 v7)).setCell ⟨b4, 2, none⟩ (.int .i64 v11)).heap[n]? = _ := heapSetNe (heapSetNe (heapSetNe hbw15 (by omega)) (by omega)) (by omega)
                have hMs : Mod [] w ((((w15).setCell ⟨b4, 0, none⟩ (.int .i64 v3)).setCell ⟨b4, 1, none⟩ (.int .i64 v7)).setCell ⟨b4, 2, none⟩ (.int .i64 v11)) := ((hMw15.set (.inr hwb) _).set (.inr hwb) _).set (.inr hwb) _
                generalize ((((w15).setCell ⟨b4, 0, none⟩ (.int .i64 v3)).setCell ⟨b4, 1, none⟩ (.int .i64 v7)).setCell ⟨b4, 2, none⟩ (.int .i64 v11)) = w20 at hcs hbs hMs ⊢
                refine ⟨fok73, wMayTxn_cps ((v3 : Int), (v7 : Int), (v11 : Int)) _ _ fun w21 hm2 => .inl ⟨_, rfl, hold_ops okT (rs := [.cell 2 23]) rfl ?_⟩⟩
                have hcs2 := hm2.get hcs (by simp)
                have hbs2 := hm2.get hbs (by simp)
                have hMs2 := hMs.trans hm2 (by simp)
                simp (maxSteps := 1000000) (disch := first | omega | (simp only [sizeAlloc, sizeDrew, sizeSet, sizePut] <;> omega) | fail) only [GS, TT_eq, TTl, Nat.reduceAdd, Nat.reduceMul, Nat.reduceSub, Nat.reduceDiv, Nat.reduceMod, Nat.reducePow, Nat.reduceEqDiff, ↓reduceIte, reduceCtorEq, Int.reduceToNat, Int.reduceAdd, Int.reduceSub, Int.reduceMul]
                simp only at hX
                refine ⟨fok127, wMust_cps _ _ _ (fun ht => .inl ⟨_, rfl, hold_ops okT (rs := [.cell 2 23]) rfl ?_⟩) (fun ht => .inr ⟨_, rfl, hold_ex okT (rs := [.cell 2 23]) rfl ?_⟩)⟩
                · rw [if_pos ht] at hX
                  simp (maxSteps := 1000000) (disch := first | omega | (simp only [sizeAlloc, sizeDrew, sizeSet, sizePut] <;> omega) | fail) only [GS, TT_eq, TTl, Nat.reduceAdd, Nat.reduceMul, Nat.reduceSub, Nat.reduceDiv, Nat.reduceMod, Nat.reducePow, Nat.reduceEqDiff, ↓reduceIte, reduceCtorEq, Int.reduceToNat, Int.reduceAdd, Int.reduceSub, Int.reduceMul, cellOf hcs2, cellOf hbs2, frozenOf hbs2]
                  have hcf := st3 hbs2 (x := .int .i64 v3) (y := .int .i64 v7) (z := .int .i64 v11)
                  have hMf : Mod [] w ((((w21).setCell ⟨n, 0, none⟩ (.int .i64 v3)).setCell ⟨n, 1, none⟩ (.int .i64 v7)).setCell ⟨n, 2, none⟩ (.int .i64 v11)) := ((hMs2.set (.inr (by simp only; omega)) _).set (.inr (by simp only; omega)) _).set (.inr (by simp only; omega)) _
                  generalize ((((w21).setCell ⟨n, 0, none⟩ (.int .i64 v3)).setCell ⟨n, 1, none⟩ (.int .i64 v7)).setCell ⟨n, 2, none⟩ (.int .i64 v11)) = w22 at hcf hMf ⊢
                  simp (maxSteps := 1000000) (disch := first | omega | (simp only [sizeAlloc, sizeDrew, sizeSet, sizePut] <;> omega) | fail) only [GS, TT_eq, TTl, Nat.reduceAdd, Nat.reduceMul, Nat.reduceSub, Nat.reduceDiv, Nat.reduceMod, Nat.reducePow, Nat.reduceEqDiff, ↓reduceIte, reduceCtorEq, Int.reduceToNat, Int.reduceAdd, Int.reduceSub, Int.reduceMul, loadW]
                  refine ⟨_, cellOf hcf, _, cellOf hcf, _, cellOf hcf, ?_⟩
                  exact h1 _ _ hX.symm hMf
                · rw [if_neg (by simp [ht])] at hX
                  simp (maxSteps := 1000000) (disch := first | omega | (simp only [sizeAlloc, sizeDrew, sizeSet, sizePut] <;> omega) | fail) only [GS, TT_eq, TTl, Nat.reduceAdd, Nat.reduceMul, Nat.reduceSub, Nat.reduceDiv, Nat.reduceMod, Nat.reducePow, Nat.reduceEqDiff, ↓reduceIte, reduceCtorEq, Int.reduceToNat, Int.reduceAdd, Int.reduceSub, Int.reduceMul]
                  exact h0 hX.symm _ hMs2
              · rw [hv] at hX
                simp (maxSteps := 1000000) (disch := first | omega | (simp only [sizeAlloc, sizeDrew, sizeSet, sizePut] <;> omega) | fail) only [GS, TT_eq, TTl, Nat.reduceAdd, Nat.reduceMul, Nat.reduceSub, Nat.reduceDiv, Nat.reduceMod, Nat.reducePow, Nat.reduceEqDiff, ↓reduceIte, reduceCtorEq, Int.reduceToNat, Int.reduceAdd, Int.reduceSub, Int.reduceMul]
                exact h0 (by rw [← hX]; repeat (first | rfl | split)) _ (hMw14.trans hm (by simp))
          · rw [hv] at hX
            simp (maxSteps := 1000000) (disch := first | omega | (simp only [sizeAlloc, sizeDrew, sizeSet, sizePut] <;> omega) | fail) only [GS, TT_eq, TTl, Nat.reduceAdd, Nat.reduceMul, Nat.reduceSub, Nat.reduceDiv, Nat.reduceMod, Nat.reducePow, Nat.reduceEqDiff, ↓reduceIte, reduceCtorEq, Int.reduceToNat, Int.reduceAdd, Int.reduceSub, Int.reduceMul]
            exact h0 (by rw [← hX]; repeat (first | rfl | split)) _ (hMw11.trans hm (by simp))
        · refine ht_eff okT rfl rfl (v := .pointer (some ⟨w11.heap.size, 0, none⟩)) (w' := w11.alloc (.cells #[.int .i64 0, .int .i64 0, .int .i64 0] 23)) (by simp (maxSteps := 1000000) only [GS, TT_eq, TTl, Nat.reduceAdd, Nat.reduceMul, Nat.reduceSub, Nat.reduceDiv, Nat.reduceMod, Nat.reducePow, Nat.reduceEqDiff, ↓reduceIte, reduceCtorEq, Int.reduceToNat, Int.reduceAdd, Int.reduceSub, Int.reduceMul]) ?_ ?_ ht_stop
          all_goals have hm := (Mod.refl [] w11).alloc (.cells #[.int .i64 0, .int .i64 0, .int .i64 0] 23)
          all_goals have hcw16 := heapNew (w := w11) (o := .cells #[.int .i64 0, .int .i64 0, .int .i64 0] 23)
          all_goals generalize w11.alloc (.cells #[.int .i64 0, .int .i64 0, .int .i64 0] 23) = w16 at hm hcw16 ⊢
          · simp (maxSteps := 1000000) only [GS, TT_eq, TTl, Nat.reduceAdd, Nat.reduceMul, Nat.reduceSub, Nat.reduceDiv, Nat.reduceMod, Nat.reducePow, Nat.reduceEqDiff, ↓reduceIte, reduceCtorEq, Int.reduceToNat, Int.reduceAdd, Int.reduceSub, Int.reduceMul]
            exact ⟨cellM gw1111 hm, cellM gw117 hm, cellM gw113 hm⟩
          have gw163 := cellM gw113 hm
          have gw167 := cellM gw117 hm
          have gw1611 := cellM gw1111 hm
          have hnb : n < w11.heap.size := (Array.getElem?_eq_some_iff.1 hbw11).1
          have hbw16 := hm.get hbw11 (by simp)
          have hMw16 := hMw11.trans hm (by simp)
          clear hm
          have hwb := hMw11.size
          generalize w11.heap.size = b4 at hnb hwb hcw16 ⊢
          simp (maxSteps := 1000000) only [GS, TT_eq, TTl, Nat.reduceAdd, Nat.reduceMul, Nat.reduceSub, Nat.reduceDiv, Nat.reduceMod, Nat.reducePow, Nat.reduceEqDiff, ↓reduceIte, reduceCtorEq, Int.reduceToNat, Int.reduceAdd, Int.reduceSub, Int.reduceMul]
          refine ht_lin rfl (hold_dops okT (rs := [.cell 2 23]) rfl ?_)
          simp (maxSteps := 1000000) (disch := first | omega | (simp only [sizeAlloc, sizeDrew, sizeSet, sizePut] <;> omega) | fail) only [GS, TT_eq, TTl, Nat.reduceAdd, Nat.reduceMul, Nat.reduceSub, Nat.reduceDiv, Nat.reduceMod, Nat.reducePow, Nat.reduceEqDiff, ↓reduceIte, reduceCtorEq, Int.reduceToNat, Int.reduceAdd, Int.reduceSub, Int.reduceMul]
          refine ⟨fok120, wUnnum_cps t1 (by unfold maxLen; omega) _ _ (fun v7 w17 hv hm => .inl ⟨_, rfl, cellM gw1611 hm, hold_dops okT (rs := [.cell 2 23]) rfl ?_⟩) (fun hv w17 hm => .inr ⟨_, rfl, fun fs' => hold_ex okT (rs := [.cell 2 23]) rfl ?_⟩)⟩
          · rw [hv] at hX
            have gw173 := cellM gw163 hm
            have gw177 := cellM gw167 hm
            have gw1711 := cellM gw1611 hm
            have hbw17 := hm.get hbw16 (by simp)
            have hMw17 := hMw16.trans hm (by simp)
            have hcw17 := hm.get hcw16 (by simp)
            clear hm hv
            simp (maxSteps := 1000000) (disch := first | omega | (simp only [sizeAlloc, sizeDrew, sizeSet, sizePut] <;> omega) | fail) only [GS, TT_eq, TTl, Nat.reduceAdd, Nat.reduceMul, Nat.reduceSub, Nat.reduceDiv, Nat.reduceMod, Nat.reducePow, Nat.reduceEqDiff, ↓reduceIte, reduceCtorEq, Int.reduceToNat, Int.reduceAdd, Int.reduceSub, Int.reduceMul]
            refine ⟨fok120, wUnnum_cps t2 (by unfold maxLen; omega) _ _ (fun v11 w18 hv hm => .inl ⟨_, rfl, hold_dops okT (rs := [.cell 2 23]) rfl ?_⟩) (fun hv w18 hm => .inr ⟨_, rfl, fun fs' => hold_ex okT (rs := [.cell 2 23]) rfl ?_⟩)⟩
            · rw [hv] at hX
              have gw183 := cellM gw173 hm
              have gw187 := cellM gw177 hm
              have gw1811 := cellM gw1711 hm
              have hbw18 := hm.get hbw17 (by simp)
              have hMw18 := hMw17.trans hm (by simp)
              have hcw18 := hm.get hcw17 (by simp)
              clear hm hv
              simp (maxSteps := 1000000) (disch := first | omega | (simp only [sizeAlloc, sizeDrew, sizeSet, sizePut] <;> omega) | fail) only [GS, TT_eq, TTl, Nat.reduceAdd, Nat.reduceMul, Nat.reduceSub, Nat.reduceDiv, Nat.reduceMod, Nat.reducePow, Nat.reduceEqDiff, ↓reduceIte, reduceCtorEq, Int.reduceToNat, Int.reduceAdd, Int.reduceSub, Int.reduceMul, cellOf hcw18, frozenOf hcw18]
              have hcs := st3 hcw18 (x := .int .i64 v3) (y := .int .i64 v7) (z := .int .i64 v11)
              have hbs : ((((w18).setCell ⟨b4, 0, none⟩ (.int .i64 v3)).setCell ⟨b4, 1, none⟩ (.int .i64 v7)).setCell ⟨b4, 2, none⟩ (.int .i64 v11)).heap[n]? = _ := heapSetNe (heapSetNe (heapSetNe hbw18 (by omega)) (by omega)) (by omega)
              have hMs : Mod [] w ((((w18).setCell ⟨b4, 0, none⟩ (.int .i64 v3)).setCell ⟨b4, 1, none⟩ (.int .i64 v7)).setCell ⟨b4, 2, none⟩ (.int .i64 v11)) := ((hMw18.set (.inr hwb) _).set (.inr hwb) _).set (.inr hwb) _
              generalize ((((w18).setCell ⟨b4, 0, none⟩ (.int .i64 v3)).setCell ⟨b4, 1, none⟩ (.int .i64 v7)).setCell ⟨b4, 2, none⟩ (.int .i64 v11)) = w20 at hcs hbs hMs ⊢
              refine ⟨fok73, wMayTxn_cps ((v3 : Int), (v7 : Int), (v11 : Int)) _ _ fun w21 hm2 => .inl ⟨_, rfl, hold_ops okT (rs := [.cell 2 23]) rfl ?_⟩⟩
              have hcs2 := hm2.get hcs (by simp)
              have hbs2 := hm2.get hbs (by simp)
              have hMs2 := hMs.trans hm2 (by simp)
              simp (maxSteps := 1000000) (disch := first | omega | (simp only [sizeAlloc, sizeDrew, sizeSet, sizePut] <;> omega) | fail) only [GS, TT_eq, TTl, Nat.reduceAdd, Nat.reduceMul, Nat.reduceSub, Nat.reduceDiv, Nat.reduceMod, Nat.reducePow, Nat.reduceEqDiff, ↓reduceIte, reduceCtorEq, Int.reduceToNat, Int.reduceAdd, Int.reduceSub, Int.reduceMul]
              simp only at hX
              refine ⟨fok127, wMust_cps _ _ _ (fun ht => .inl ⟨_, rfl, hold_ops okT (rs := [.cell 2 23]) rfl ?_⟩) (fun ht => .inr ⟨_, rfl, hold_ex okT (rs := [.cell 2 23]) rfl ?_⟩)⟩
              · rw [if_pos ht] at hX
                simp (maxSteps := 1000000) (disch := first | omega | (simp only [sizeAlloc, sizeDrew, sizeSet, sizePut] <;> omega) | fail) only [GS, TT_eq, TTl, Nat.reduceAdd, Nat.reduceMul, Nat.reduceSub, Nat.reduceDiv, Nat.reduceMod, Nat.reducePow, Nat.reduceEqDiff, ↓reduceIte, reduceCtorEq, Int.reduceToNat, Int.reduceAdd, Int.reduceSub, Int.reduceMul, cellOf hcs2, cellOf hbs2, frozenOf hbs2]
                have hcf := st3 hbs2 (x := .int .i64 v3) (y := .int .i64 v7) (z := .int .i64 v11)
                have hMf : Mod [] w ((((w21).setCell ⟨n, 0, none⟩ (.int .i64 v3)).setCell ⟨n, 1, none⟩ (.int .i64 v7)).setCell ⟨n, 2, none⟩ (.int .i64 v11)) := ((hMs2.set (.inr (by simp only; omega)) _).set (.inr (by simp only; omega)) _).set (.inr (by simp only; omega)) _
                generalize ((((w21).setCell ⟨n, 0, none⟩ (.int .i64 v3)).setCell ⟨n, 1, none⟩ (.int .i64 v7)).setCell ⟨n, 2, none⟩ (.int .i64 v11)) = w22 at hcf hMf ⊢
                simp (maxSteps := 1000000) (disch := first | omega | (simp only [sizeAlloc, sizeDrew, sizeSet, sizePut] <;> omega) | fail) only [GS, TT_eq, TTl, Nat.reduceAdd, Nat.reduceMul, Nat.reduceSub, Nat.reduceDiv, Nat.reduceMod, Nat.reducePow, Nat.reduceEqDiff, ↓reduceIte, reduceCtorEq, Int.reduceToNat, Int.reduceAdd, Int.reduceSub, Int.reduceMul, loadW]
                refine ⟨_, cellOf hcf, _, cellOf hcf, _, cellOf hcf, ?_⟩
                exact h1 _ _ hX.symm hMf
              · rw [if_neg (by simp [ht])] at hX
                simp (maxSteps := 1000000) (disch := first | omega | (simp only [sizeAlloc, sizeDrew, sizeSet, sizePut] <;> omega) | fail) only [GS, TT_eq, TTl, Nat.reduceAdd, Nat.reduceMul, Nat.reduceSub, Nat.reduceDiv, Nat.reduceMod, Nat.reducePow, Nat.reduceEqDiff, ↓reduceIte, reduceCtorEq, Int.reduceToNat, Int.reduceAdd, Int.reduceSub, Int.reduceMul]
                exact h0 hX.symm _ hMs2
            · rw [hv] at hX
              simp (maxSteps := 1000000) (disch := first | omega | (simp only [sizeAlloc, sizeDrew, sizeSet, sizePut] <;> omega) | fail) only [GS, TT_eq, TTl, Nat.reduceAdd, Nat.reduceMul, Nat.reduceSub, Nat.reduceDiv, Nat.reduceMod, Nat.reducePow, Nat.reduceEqDiff, ↓reduceIte, reduceCtorEq, Int.reduceToNat, Int.reduceAdd, Int.reduceSub, Int.reduceMul]
              exact h0 (by rw [← hX]; repeat (first | rfl | split)) _ (hMw17.trans hm (by simp))
          · rw [hv] at hX
            simp (maxSteps := 1000000) (disch := first | omega | (simp only [sizeAlloc, sizeDrew, sizeSet, sizePut] <;> omega) | fail) only [GS, TT_eq, TTl, Nat.reduceAdd, Nat.reduceMul, Nat.reduceSub, Nat.reduceDiv, Nat.reduceMod, Nat.reducePow, Nat.reduceEqDiff, ↓reduceIte, reduceCtorEq, Int.reduceToNat, Int.reduceAdd, Int.reduceSub, Int.reduceMul]
            exact h0 (by rw [← hX]; repeat (first | rfl | split)) _ (hMw16.trans hm (by simp))
      · rw [hv] at hX
        simp (maxSteps := 1000000) (disch := first | omega | (simp only [sizeAlloc, sizeDrew, sizeSet, sizePut] <;> omega) | fail) only [GS, TT_eq, TTl, Nat.reduceAdd, Nat.reduceMul, Nat.reduceSub, Nat.reduceDiv, Nat.reduceMod, Nat.reducePow, Nat.reduceEqDiff, ↓reduceIte, reduceCtorEq, Int.reduceToNat, Int.reduceAdd, Int.reduceSub, Int.reduceMul]
        exact h0 (by rw [← hX]; repeat (first | rfl | split)) _ (hMw3.trans hm (by simp))
    · refine ht_eff okT rfl rfl (v := .pointer (some ⟨w3.heap.size, 0, none⟩)) (w' := w3.alloc (.cells #[.int .i64 0, .int .i64 0, .int .i64 0] 23)) (by simp (maxSteps := 1000000) only [GS, TT_eq, TTl, Nat.reduceAdd, Nat.reduceMul, Nat.reduceSub, Nat.reduceDiv, Nat.reduceMod, Nat.reducePow, Nat.reduceEqDiff, ↓reduceIte, reduceCtorEq, Int.reduceToNat, Int.reduceAdd, Int.reduceSub, Int.reduceMul]) ?_ ?_ ht_stop
      all_goals have hm := (Mod.refl [] w3).alloc (.cells #[.int .i64 0, .int .i64 0, .int .i64 0] 23)
      all_goals have hcw19 := heapNew (w := w3) (o := .cells #[.int .i64 0, .int .i64 0, .int .i64 0] 23)
      all_goals generalize w3.alloc (.cells #[.int .i64 0, .int .i64 0, .int .i64 0] 23) = w19 at hm hcw19 ⊢
      · simp (maxSteps := 1000000) only [GS, TT_eq, TTl, Nat.reduceAdd, Nat.reduceMul, Nat.reduceSub, Nat.reduceDiv, Nat.reduceMod, Nat.reducePow, Nat.reduceEqDiff, ↓reduceIte, reduceCtorEq, Int.reduceToNat, Int.reduceAdd, Int.reduceSub, Int.reduceMul]
        exact ⟨cellM gw311 hm, cellM gw37 hm, cellM gw33 hm⟩
      have gw193 := cellM gw33 hm
      have gw197 := cellM gw37 hm
      have gw1911 := cellM gw311 hm
      have hnb : n < w3.heap.size := (Array.getElem?_eq_some_iff.1 hbw3).1
      have hbw19 := hm.get hbw3 (by simp)
      have hMw19 := hMw3.trans hm (by simp)
      clear hm
      have hwb := hMw3.size
      generalize w3.heap.size = b4 at hnb hwb hcw19 ⊢
      simp (maxSteps := 1000000) only [GS, TT_eq, TTl, Nat.reduceAdd, Nat.reduceMul, Nat.reduceSub, Nat.reduceDiv, Nat.reduceMod, Nat.reducePow, Nat.reduceEqDiff, ↓reduceIte, reduceCtorEq, Int.reduceToNat, Int.reduceAdd, Int.reduceSub, Int.reduceMul]
      refine ht_lin rfl (hold_dops okT (rs := [.cell 2 23]) rfl ?_)
      simp (maxSteps := 1000000) (disch := first | omega | (simp only [sizeAlloc, sizeDrew, sizeSet, sizePut] <;> omega) | fail) only [GS, TT_eq, TTl, Nat.reduceAdd, Nat.reduceMul, Nat.reduceSub, Nat.reduceDiv, Nat.reduceMod, Nat.reducePow, Nat.reduceEqDiff, ↓reduceIte, reduceCtorEq, Int.reduceToNat, Int.reduceAdd, Int.reduceSub, Int.reduceMul]
      refine ⟨fok120, wUnnum_cps t0 (by unfold maxLen; omega) _ _ (fun v3 w20 hv hm => .inl ⟨_, rfl, ⟨cellM gw1911 hm, cellM gw197 hm⟩, hold_dops okT (rs := [.cell 2 23]) rfl ?_⟩) (fun hv w20 hm => .inr ⟨_, rfl, fun fs' => hold_ex okT (rs := [.cell 2 23]) rfl ?_⟩)⟩
      · rw [hv] at hX
        have gw203 := cellM gw193 hm
        have gw207 := cellM gw197 hm
        have gw2011 := cellM gw1911 hm
        have hbw20 := hm.get hbw19 (by simp)
        have hMw20 := hMw19.trans hm (by simp)
        have hcw20 := hm.get hcw19 (by simp)
        clear hm hv
        simp (maxSteps := 1000000) (disch := first | omega | (simp only [sizeAlloc, sizeDrew, sizeSet, sizePut] <;> omega) | fail) only [GS, TT_eq, TTl, Nat.reduceAdd, Nat.reduceMul, Nat.reduceSub, Nat.reduceDiv, Nat.reduceMod, Nat.reducePow, Nat.reduceEqDiff, ↓reduceIte, reduceCtorEq, Int.reduceToNat, Int.reduceAdd, Int.reduceSub, Int.reduceMul]
        refine ⟨fok120, wUnnum_cps t1 (by unfold maxLen; omega) _ _ (fun v7 w21 hv hm => .inl ⟨_, rfl, cellM gw2011 hm, hold_dops okT (rs := [.cell 2 23]) rfl ?_⟩) (fun hv w21 hm => .inr ⟨_, rfl, fun fs' => hold_ex okT (rs := [.cell 2 23]) rfl ?_⟩)⟩
        · rw [hv] at hX
          have gw213 := cellM gw203 hm
          have gw217 := cellM gw207 hm
          have gw2111 := cellM gw2011 hm
          have hbw21 := hm.get hbw20 (by simp)
          have hMw21 := hMw20.trans hm (by simp)
          have hcw21 := hm.get hcw20 (by simp)
          clear hm hv
          simp (maxSteps := 1000000) (disch := first | omega | (simp only [sizeAlloc, sizeDrew, sizeSet, sizePut] <;> omega) | fail) only [GS, TT_eq, TTl, Nat.reduceAdd, Nat.reduceMul, Nat.reduceSub, Nat.reduceDiv, Nat.reduceMod, Nat.reducePow, Nat.reduceEqDiff, ↓reduceIte, reduceCtorEq, Int.reduceToNat, Int.reduceAdd, Int.reduceSub, Int.reduceMul]
          refine ⟨fok120, wUnnum_cps t2 (by unfold maxLen; omega) _ _ (fun v11 w22 hv hm => .inl ⟨_, rfl, hold_dops okT (rs := [.cell 2 23]) rfl ?_⟩) (fun hv w22 hm => .inr ⟨_, rfl, fun fs' => hold_ex okT (rs := [.cell 2 23]) rfl ?_⟩)⟩
          · rw [hv] at hX
            have gw223 := cellM gw213 hm
            have gw227 := cellM gw217 hm
            have gw2211 := cellM gw2111 hm
            have hbw22 := hm.get hbw21 (by simp)
            have hMw22 := hMw21.trans hm (by simp)
            have hcw22 := hm.get hcw21 (by simp)
            clear hm hv
            simp (maxSteps := 1000000) (disch := first | omega | (simp only [sizeAlloc, sizeDrew, sizeSet, sizePut] <;> omega) | fail) only [GS, TT_eq, TTl, Nat.reduceAdd, Nat.reduceMul, Nat.reduceSub, Nat.reduceDiv, Nat.reduceMod, Nat.reducePow, Nat.reduceEqDiff, ↓reduceIte, reduceCtorEq, Int.reduceToNat, Int.reduceAdd, Int.reduceSub, Int.reduceMul, cellOf hcw22, frozenOf hcw22]
            have hcs := st3 hcw22 (x := .int .i64 v3) (y := .int .i64 v7) (z := .int .i64 v11)
            have hbs : ((((w22).setCell ⟨b4, 0, none⟩ (.int .i64 v3)).setCell ⟨b4, 1, none⟩ (.int .i64 v7)).setCell ⟨b4, 2, none⟩ (.int .i64 v11)).heap[n]? = _ := heapSetNe (heapSetNe (heapSetNe hbw22 (by omega)) (by omega)) (by omega)
            have hMs : Mod [] w ((((w22).setCell ⟨b4, 0, none⟩ (.int .i64 v3)).setCell ⟨b4, 1, none⟩ (.int .i64 v7)).setCell ⟨b4, 2, none⟩ (.int .i64 v11)) := ((hMw22.set (.inr hwb) _).set (.inr hwb) _).set (.inr hwb) _
            generalize ((((w22).setCell ⟨b4, 0, none⟩ (.int .i64 v3)).setCell ⟨b4, 1, none⟩ (.int .i64 v7)).setCell ⟨b4, 2, none⟩ (.int .i64 v11)) = w20 at hcs hbs hMs ⊢
            refine ⟨fok73, wMayTxn_cps ((v3 : Int), (v7 : Int), (v11 : Int)) _ _ fun w21 hm2 => .inl ⟨_, rfl, hold_ops okT (rs := [.cell 2 23]) rfl ?_⟩⟩
            have hcs2 := hm2.get hcs (by simp)
            have hbs2 := hm2.get hbs (by simp)
            have hMs2 := hMs.trans hm2 (by simp)
            simp (maxSteps := 1000000) (disch := first | omega | (simp only [sizeAlloc, sizeDrew, sizeSet, sizePut] <;> omega) | fail) only [GS, TT_eq, TTl, Nat.reduceAdd, Nat.reduceMul, Nat.reduceSub, Nat.reduceDiv, Nat.reduceMod, Nat.reducePow, Nat.reduceEqDiff, ↓reduceIte, reduceCtorEq, Int.reduceToNat, Int.reduceAdd, Int.reduceSub, Int.reduceMul]
            simp only at hX
            refine ⟨fok127, wMust_cps _ _ _ (fun ht => .inl ⟨_, rfl, hold_ops okT (rs := [.cell 2 23]) rfl ?_⟩) (fun ht => .inr ⟨_, rfl, hold_ex okT (rs := [.cell 2 23]) rfl ?_⟩)⟩
            · rw [if_pos ht] at hX
              simp (maxSteps := 1000000) (disch := first | omega | (simp only [sizeAlloc, sizeDrew, sizeSet, sizePut] <;> omega) | fail) only [GS, TT_eq, TTl, Nat.reduceAdd, Nat.reduceMul, Nat.reduceSub, Nat.reduceDiv, Nat.reduceMod, Nat.reducePow, Nat.reduceEqDiff, ↓reduceIte, reduceCtorEq, Int.reduceToNat, Int.reduceAdd, Int.reduceSub, Int.reduceMul, cellOf hcs2, cellOf hbs2, frozenOf hbs2]
              have hcf := st3 hbs2 (x := .int .i64 v3) (y := .int .i64 v7) (z := .int .i64 v11)
              have hMf : Mod [] w ((((w21).setCell ⟨n, 0, none⟩ (.int .i64 v3)).setCell ⟨n, 1, none⟩ (.int .i64 v7)).setCell ⟨n, 2, none⟩ (.int .i64 v11)) := ((hMs2.set (.inr (by simp only; omega)) _).set (.inr (by simp only; omega)) _).set (.inr (by simp only; omega)) _
              generalize ((((w21).setCell ⟨n, 0, none⟩ (.int .i64 v3)).setCell ⟨n, 1, none⟩ (.int .i64 v7)).setCell ⟨n, 2, none⟩ (.int .i64 v11)) = w22 at hcf hMf ⊢
              simp (maxSteps := 1000000) (disch := first | omega | (simp only [sizeAlloc, sizeDrew, sizeSet, sizePut] <;> omega) | fail) only [GS, TT_eq, TTl, Nat.reduceAdd, Nat.reduceMul, Nat.reduceSub, Nat.reduceDiv, Nat.reduceMod, Nat.reducePow, Nat.reduceEqDiff, ↓reduceIte, reduceCtorEq, Int.reduceToNat, Int.reduceAdd, Int.reduceSub, Int.reduceMul, loadW]
              refine ⟨_, cellOf hcf, _, cellOf hcf, _, cellOf hcf, ?_⟩
              exact h1 _ _ hX.symm hMf
            · rw [if_neg (by simp [ht])] at hX
              simp (maxSteps := 1000000) (disch := first | omega | (simp only [sizeAlloc, sizeDrew, sizeSet, sizePut] <;> omega) | fail) only [GS, TT_eq, TTl, Nat.reduceAdd, Nat.reduceMul, Nat.reduceSub, Nat.reduceDiv, Nat.reduceMod, Nat.reducePow, Nat.reduceEqDiff, ↓reduceIte, reduceCtorEq, Int.reduceToNat, Int.reduceAdd, Int.reduceSub, Int.reduceMul]
              exact h0 hX.symm _ hMs2
          · rw [hv] at hX
            simp (maxSteps := 1000000) (disch := first | omega | (simp only [sizeAlloc, sizeDrew, sizeSet, sizePut] <;> omega) | fail) only [GS, TT_eq, TTl, Nat.reduceAdd, Nat.reduceMul, Nat.reduceSub, Nat.reduceDiv, Nat.reduceMod, Nat.reducePow, Nat.reduceEqDiff, ↓reduceIte, reduceCtorEq, Int.reduceToNat, Int.reduceAdd, Int.reduceSub, Int.reduceMul]
            exact h0 (by rw [← hX]; repeat (first | rfl | split)) _ (hMw21.trans hm (by simp))
        · rw [hv] at hX
          simp (maxSteps := 1000000) (disch := first | omega | (simp only [sizeAlloc, sizeDrew, sizeSet, sizePut] <;> omega) | fail) only [GS, TT_eq, TTl, Nat.reduceAdd, Nat.reduceMul, Nat.reduceSub, Nat.reduceDiv, Nat.reduceMod, Nat.reducePow, Nat.reduceEqDiff, ↓reduceIte, reduceCtorEq, Int.reduceToNat, Int.reduceAdd, Int.reduceSub, Int.reduceMul]
          exact h0 (by rw [← hX]; repeat (first | rfl | split)) _ (hMw20.trans hm (by simp))
      · rw [hv] at hX
        simp (maxSteps := 1000000) (disch := first | omega | (simp only [sizeAlloc, sizeDrew, sizeSet, sizePut] <;> omega) | fail) only [GS, TT_eq, TTl, Nat.reduceAdd, Nat.reduceMul, Nat.reduceSub, Nat.reduceDiv, Nat.reduceMod, Nat.reducePow, Nat.reduceEqDiff, ↓reduceIte, reduceCtorEq, Int.reduceToNat, Int.reduceAdd, Int.reduceSub, Int.reduceMul]
        exact h0 (by rw [← hX]; repeat (first | rfl | split)) _ (hMw19.trans hm (by simp))
  · rw [hp] at hX
    simp (maxSteps := 1000000) (disch := first | omega | (simp only [sizeAlloc, sizeDrew, sizeSet, sizePut] <;> omega) | fail) only [GS, TT_eq, TTl, Nat.reduceAdd, Nat.reduceMul, Nat.reduceSub, Nat.reduceDiv, Nat.reduceMod, Nat.reducePow, Nat.reduceEqDiff, ↓reduceIte, reduceCtorEq, Int.reduceToNat, Int.reduceAdd, Int.reduceSub, Int.reduceMul]
    exact h0 hX.symm _ (hM.trans hM2 (by simp))
theorem len3' {l : List (List UInt8)} (h : l.length = 3) : ∃ a b c, l = [a, b, c] := by
  match l, h with
  | [a, b, c], _ => exact ⟨a, b, c, rfl⟩
theorem made_len (f : List UInt8) (l : List (List UInt8)) : (madeS f l).1.length ≤ 16384 := by
  unfold madeS
  split
  · split
    · rename_i h; exact (check0 h).2.2.1
    · simp
  · simp
theorem txn_len (x : Tx) : (txnS x).1.length ≤ 16384 := by
  unfold txnS
  split
  · exact made_len _ _
  · simp
theorem mbrs_len (c : Int) (l : List Mb) : (mbrsS c l).1.length ≤ 16384 := by
  unfold mbrsS
  split
  · split
    · exact made_len _ _
    · simp
  · simp
theorem row_of {l : List (List UInt8)} (hl : l.length ≤ 9223372036854775807) {a : List UInt8} (h : madeS (114 :: numL l.length) l = (a, 0)) : kindS a = 3 ∧ partsS a = l := by
  obtain ⟨K, tr, e⟩ := rowMade_is hl h
  refine ⟨?_, by rw [tr.parts, e]⟩
  unfold kindS; rw [if_pos tr.ok, tr.1]; rfl
theorem of_row {S : List UInt8} (h : kindS S = 3) : madeS (114 :: numL (partsS S).length) (partsS S) = (S, 0) := by
  rcases opens_plain (kind_chk h (by decide)) with h1 | h1 | h1 | h1 | h1 | h1
  · have := h1.1; omega
  · have := h1.1; omega
  · exact h1.2.2
  · have := h1.1; omega
  · have := h1.1; omega
  · have := h1.1; omega
theorem data_of {s t : List UInt8} (h : dataS s = (t, 0)) : kindS t = 1 ∧ textS t = (s, true) := by
  unfold dataS at h
  split at h
  · simp at h
  · rename_i hs
    simp only [Prod.mk.injEq, and_true] at h
    subst h
    have hn : (numL s.length).length ≤ 9 := numL_len (by omega)
    have tr : Tr (100 :: (numL s.length ++ s)) (100 :: (numL s.length ++ s)) .nil := by
      refine ⟨by simp [encF], .inl ⟨rfl, s, by omega, rfl⟩, trivial, by simp [hgtF], ?_⟩
      simp only [List.length_cons, List.length_append]
      omega
    have hk : kindS (100 :: (numL s.length ++ s)) = 1 := by unfold kindS; rw [if_pos tr.ok]; rfl
    refine ⟨hk, ?_⟩
    unfold textS
    rw [if_pos (.inl hk), List.drop_succ_cons, List.drop_zero]
    have := readText_of s 1024 (by omega) (by omega) []
    rw [List.append_nil] at this
    rw [this]
theorem of_data {t : List UInt8} (h : kindS t = 1) : dataS (textS t).1 = (t, 0) := by
  rcases opens_plain (kind_chk h (by decide)) with h1 | h1 | h1 | h1 | h1 | h1
  · obtain ⟨_, _, s, h2, h3⟩ := h1
    rw [h2]; exact h3
  · have := h1.1; omega
  · have := h1.1; omega
  · have := h1.1; omega
  · have := h1.1; omega
  · have := h1.1; omega
theorem numE_data (v : Nat) (h : v ≤ 2147483647) : dataS (numL v) = (numE (v : Int), 0) := by
  have hn : numS (v : Int) = dataS (numL v) := by unfold numS; rw [if_neg (by omega), Int.toNat_natCast]
  have hl : (numL v).length ≤ 9 := numL_len (by omega)
  have hd : (dataS (numL v)).2 = 0 := by unfold dataS; rw [if_neg (by omega)]
  unfold numE
  rw [hn, ← hd]
theorem numT_of (v : Nat) (h : v ≤ 2147483647) : numT (numE (v : Int)) = some v := by
  obtain ⟨hk, ht⟩ := data_of (numE_data v h)
  have hr := readNum_of v (by omega) []
  rw [List.append_nil] at hr
  unfold numT
  rw [ht, hk]
  simp only
  rw [hr, if_pos ⟨trivial, rfl, rfl, h⟩]
theorem of_numT {S : List UInt8} {v : Nat} (h : numT S = some v) : S = numE (v : Int) ∧ v ≤ 2147483647 := by
  unfold numT at h
  split at h
  · rename_i hc
    obtain ⟨hk, he, hn, hv⟩ := hc
    simp only [Option.some.injEq] at h
    have hd := of_data hk
    rw [h] at hv
    have hx : readNumS (textS S).1 = (v, (textS S).1.length, 0) := by rw [← h, ← hn, ← he]
    obtain ⟨rest, h1, h2, h3⟩ := readNum_is hx
    have : rest = [] := by
      have h4 := congrArg List.length h1
      rw [List.length_append, h2] at h4
      exact List.length_eq_zero_iff.1 (by omega)
    rw [this, List.append_nil] at h1
    rw [h1, numE_data v hv] at hd
    exact ⟨(Prod.mk.inj hd).1.symm, hv⟩
  · simp at h
theorem rowO_of {S : List UInt8} {l : List (List UInt8)} {a b : Nat} (hl : a ≤ l.length ∧ l.length ≤ b) (hb : b ≤ 100) (h : madeS (114 :: numL l.length) l = (S, 0)) : rowO S a b = some l := by
  obtain ⟨h1, h2⟩ := row_of (by omega) h
  unfold rowO
  rw [h1, h2, if_pos ⟨rfl, hl⟩]
theorem of_rowO {S : List UInt8} {l : List (List UInt8)} {a b : Nat} (h : rowO S a b = some l) : madeS (114 :: numL l.length) l = (S, 0) ∧ (∀ p ∈ l, checkS p = 0) ∧ a ≤ l.length ∧ l.length ≤ b := by
  obtain ⟨h1, h2, h3, h4, h5⟩ := rowO_ok h
  rw [h4]
  rw [← h4]
  exact ⟨by rw [h4]; exact of_row h5, h1, h2, h3⟩
theorem txB_is {x : Tx} (h : txB x = true) : ∃ a b c : Nat, x = ((a : Int), (b : Int), (c : Int)) ∧ a ≤ 65535 ∧ b ≤ 65535 ∧ c ≤ 65535 := by
  have := of_decide_eq_true h
  obtain ⟨a, b, c⟩ := x
  simp only at this
  exact ⟨a.toNat, b.toNat, c.toNat, by simp only [Prod.mk.injEq]; omega, by omega, by omega, by omega⟩
theorem txn_back {x : Tx} {S : List UInt8} (h : txnS x = (S, 0)) : untxO S = some x ∧ txB x = true := by
  unfold txnS at h
  split at h
  · rename_i hb
    refine ⟨?_, hb⟩
    obtain ⟨a, b, c, rfl, ha, hb', hc⟩ := txB_is hb
    unfold untxO
    rw [rowO_of (l := [numE (a : Int), numE (b : Int), numE (c : Int)]) ⟨by simp, by simp⟩ (by decide) h]
    simp only [List.getD_cons_zero, List.getD_cons_succ]
    rw [numT_of a (by omega), numT_of b (by omega), numT_of c (by omega)]
    simp only
    rw [if_pos hb]
  · simp at h
theorem of_untx {x : Tx} {S : List UInt8} (h : untxO S = some x) : txnS x = (S, 0) := by
  unfold untxO at h
  split at h
  · rename_i l hl
    obtain ⟨hm, -, h1, h2⟩ := of_rowO hl
    obtain ⟨t0, t1, t2, rfl⟩ := len3' (show l.length = 3 by omega)
    simp only [List.getD_cons_zero, List.getD_cons_succ] at h
    split at h
    · rename_i a b c ha hb hc
      split at h
      · rename_i hB
        simp only [Option.some.injEq] at h
        subst h
        unfold txnS
        rw [if_pos hB]
        simp only
        rw [← (of_numT ha).1, ← (of_numT hb).1, ← (of_numT hc).1]
        exact hm
      · simp at h
    · simp at h
  · simp at h
theorem one_back {s : List UInt8} {m : Mb} (h : oneM s = some m) : madeS (114 :: numL 2) [numE m.1, m.2] = (s, 0) := by
  unfold oneM at h
  split at h
  · rename_i l hl
    obtain ⟨hm, -, h1, h2⟩ := of_rowO hl
    obtain ⟨t0, t1, rfl⟩ := len2 (show l.length = 2 by omega)
    simp only [List.getD_cons_zero, List.getD_cons_succ] at h
    cases hv : numT t0 with
    | none => rw [hv] at h; simp at h
    | some v =>
      rw [hv] at h
      have h : some ((v : Int), t1) = some m := h
      simp only [Option.some.injEq] at h
      subst h
      rw [← (of_numT hv).1]
      exact hm
  · simp at h
theorem of_one {m : Mb} {s : List UInt8} (h0 : 0 ≤ m.1) (h8 : m.1 < 8) (h : madeS (114 :: numL 2) [numE m.1, m.2] = (s, 0)) : oneM s = some m := by
  obtain ⟨k, d⟩ := m
  obtain ⟨n, rfl⟩ : ∃ n : Nat, k = n := ⟨k.toNat, by simp only at h0; omega⟩
  unfold oneM
  rw [rowO_of (l := [numE (n : Int), d]) ⟨by simp, by simp⟩ (by decide) h]
  simp only [List.getD_cons_zero, List.getD_cons_succ]
  rw [numT_of n (by simp only at h8; omega)]
  rfl
theorem unL_back : ∀ (ps : List (List UInt8)) (l : List Mb), unL ps = some l → mbRows l = some ps
  | [], l, h => by
    simp only [unL, Option.some.injEq] at h
    subst h; rfl
  | s :: r, l, h => by
    simp only [unL] at h
    split at h
    · rename_i m hm
      cases hq : unL r with
      | none => rw [hq] at h; simp at h
      | some q =>
        rw [hq] at h
        simp only [Option.map_some, Option.some.injEq] at h
        subst h
        rw [mbRows, one_back hm, unL_back r q hq]
        simp
    · simp at h
theorem of_unL : ∀ (l : List Mb) (ps : List (List UInt8)), (∀ m ∈ l, 0 ≤ m.1 ∧ m.1 < 8) → mbRows l = some ps → unL ps = some l
  | [], ps, _, h => by
    simp only [mbRows, Option.some.injEq] at h
    subst h; rfl
  | m :: l, ps, hm, h => by
    simp only [mbRows] at h
    split at h
    · rename_i h0
      cases hq : mbRows l with
      | none => rw [hq] at h; simp at h
      | some q =>
        rw [hq] at h
        simp only [Option.map_some, Option.some.injEq] at h
        subst h
        have h1 := hm m List.mem_cons_self
        rw [unL, of_one h1.1 h1.2 (s := (madeS (114 :: numL 2) [numE m.1, m.2]).1) (by rw [← h0]), of_unL l q (fun x hx => hm x (by simp [hx])) hq]
        rfl
    · simp at h
theorem unmb_back {c : Int} {S : List UInt8} {l : List Mb} (h : unmbS c S = some l) : mbrsS c l = (S, 0) ∧ mbB c l = true := by
  unfold unmbS at h
  split at h
  · rename_i ps hp
    split at h
    · rename_i l' hl
      split at h
      · rename_i hB
        simp only [Option.some.injEq] at h
        subst h
        refine ⟨?_, hB⟩
        unfold mbrsS
        rw [if_pos hB, unL_back ps l' hl]
        exact (of_rowO hp).1
      · simp at h
    · simp at h
  · simp at h
theorem of_unmb {c : Int} {S : List UInt8} {l : List Mb} (h : mbrsS c l = (S, 0)) : unmbS c S = some l := by
  unfold mbrsS at h
  split at h
  · rename_i hB
    split at h
    · rename_i r hr
      have hB' := hB
      unfold mbB at hB'
      rw [Bool.and_eq_true] at hB'
      have hlen := of_decide_eq_true hB'.2
      have hr' := (mbRows_len l r hr).1
      unfold unmbS
      rw [rowO_of (l := r) ⟨by omega, by omega⟩ (by decide) h]
      simp only
      rw [of_unL l r (fun m hm => by have := mbs_el hB'.1 m hm; omega) hr]
      simp only
      rw [if_pos hB]
    · simp at h
  · simp at h
instance : Inhabited Mb := ⟨(0, [])⟩
def I64 (v : Int) : Prop := -9223372036854775808 ≤ v ∧ v ≤ 9223372036854775807
/-- What is known of members that come in. -/
structure MbsIn (w : World) (sa : Value) (l : List Mb) : Prop where
  rd : Rd w 2 sa l.length (l.flatMap mbC)
  len : l.length ≤ 9223372036854775807
  dig : ∀ x ∈ l, x.2.length ≤ maxLen
  org : ∀ x ∈ l, I64 x.1
theorem byL (a : ByteArray) : (⟨a.data.toList.toArray⟩ : ByteArray) = a := by cases a; rw [Array.toArray_toList]
section
variable {H : Type} {enc : TypeId × Value → H} {w : World} {base : Nat} {spare : Nat → Bool} {held : Bool}
theorem cells2 {cs : List Value} (hl : cs.length = 2) : ∃ k0 k1, cs = [k0, k1] := by
  match cs, hl with
  | [k0, k1], _ => exact ⟨_, _, rfl⟩
theorem cells3 {cs : List Value} (hl : cs.length = 3) : ∃ k0 k1 k2, cs = [k0, k1, k2] := by
  match cs, hl with
  | [k0, k1, k2], _ => exact ⟨_, _, _, rfl⟩
theorem tx_el : ∀ n cs y, DataW.trod enc Tryz.prog w base spare held n 23 cs = some y → ∃ a : Tx, cs = txC a ∧ I64 a.1 ∧ I64 a.2.1 ∧ I64 a.2.2 := by
  intro n cs y h
  obtain ⟨hl, hf⟩ := el_field Tryz.underlying23 h
  rw [show Tryz.prog.cellsOf 23 = 3 from by kernel_rfl] at hl
  obtain ⟨m0, z0, e0⟩ := hf 0 _ rfl
  obtain ⟨m1, z1, e1⟩ := hf 1 _ rfl
  obtain ⟨m2, z2, e2⟩ := hf 2 _ rfl
  obtain ⟨a0, f0, _, g0⟩ := DataW.trod_int Tryz.underlying3 e0
  obtain ⟨a1, f1, _, g1⟩ := DataW.trod_int Tryz.underlying3 e1
  obtain ⟨a2, f2, _, g2⟩ := DataW.trod_int Tryz.underlying3 e2
  have f0 : List.take (Tryz.prog.cellsOf 3) (List.drop 0 cs) = _ := f0
  have f1 : List.take (Tryz.prog.cellsOf 3) (List.drop 1 cs) = _ := f1
  have f2 : List.take (Tryz.prog.cellsOf 3) (List.drop 2 cs) = _ := f2
  have c3 : Tryz.prog.cellsOf 3 = 1 := by kernel_rfl
  rw [c3] at f0 f1 f2
  obtain ⟨k0, k1, k2, rfl⟩ := cells3 hl
  clear e0 e1 e2 hf h c3
  simp only [List.drop_succ_cons, List.drop_zero, List.take_succ_cons, List.take_zero, List.cons.injEq, and_true] at f0 f1 f2
  exact ⟨(a0, a1, a2), by rw [f0, f1, f2]; rfl, wf_i64 g0, wf_i64 g1, wf_i64 g2⟩
theorem mb_el : ∀ n cs y, DataW.trod enc Tryz.prog w base spare held n 84 cs = some y → ∃ a : Mb, cs = mbC a ∧ (I64 a.1 ∧ a.2.length ≤ maxLen) := by
  intro n cs y h
  obtain ⟨hl, hf⟩ := el_field Tryz.underlying84 h
  rw [show Tryz.prog.cellsOf 84 = 2 from by kernel_rfl] at hl
  obtain ⟨m0, z0, e0⟩ := hf 0 _ rfl
  obtain ⟨m1, z1, e1⟩ := hf 1 _ rfl
  obtain ⟨a0, f0, _, g0⟩ := DataW.trod_int Tryz.underlying3 e0
  obtain ⟨a1, f1, _, g1⟩ := DataW.trod_string Tryz.underlying9 e1
  have f0 : List.take (Tryz.prog.cellsOf 3) (List.drop 0 cs) = _ := f0
  have f1 : List.take (Tryz.prog.cellsOf 9) (List.drop 1 cs) = _ := f1
  have c3 : Tryz.prog.cellsOf 3 = 1 := by kernel_rfl
  have c9 : Tryz.prog.cellsOf 9 = 1 := by kernel_rfl
  rw [c3] at f0
  rw [c9] at f1
  obtain ⟨k0, k1, rfl⟩ := cells2 hl
  clear e0 e1 hf h c3 c9
  simp only [List.drop_succ_cons, List.drop_zero, List.take_succ_cons, List.take_zero, List.cons.injEq, and_true] at f0 f1
  refine ⟨(a0, a1.data.toList), ?_, wf_i64 g0, ?_⟩
  · show _ = [Value.int .i64 a0, Value.string ⟨a1.data.toList.toArray⟩]
    rw [byL, f0, f1]
  · show a1.data.toList.length ≤ maxLen
    rw [Array.length_toList]
    exact g1
theorem mbs_in {n : Nat} {cs : List Value} {y : DataW H × List MemPlace} (e3 : DataW.trod enc Tryz.prog w base spare held n 24 cs = some y) : ∃ (sa : Value) (l : List Mb), cs = [sa] ∧ MbsIn w sa l := by
  obtain ⟨aa, al, ac, f3⟩ : ∃ a l c, cs = [Value.slice a l c] := by
    rcases Go.Deep.open_slice Tryz.underlying24 e3 with ⟨h0, _⟩ | ⟨a, len, cap, m, n, D, Pl, h0, _⟩
    · exact ⟨_, _, _, h0⟩
    · exact ⟨_, _, _, h0⟩
  rw [f3] at e3
  obtain ⟨l, hr, hll, hg⟩ := rd_open mbC 2 mbC_len (by decide) (a0 := aa) (len0 := al) (cap0 := ac) Tryz.underlying24 (by kernel_rfl) e3 mb_el
  exact ⟨.slice aa al ac, l, f3, ⟨hr, hll, fun x hx => (hg x hx).2, fun x hx => (hg x hx).1⟩⟩
end
theorem SameM_cps (sa sb : Value) (xs ys : List Mb) (w : World) (R : Ending → World → Prop) (hx : xs.length ≤ 1000000) (ha : Rd w 2 sa xs.length (xs.flatMap mbC)) (hb : Rd w 2 sb ys.length (ys.flatMap mbC))
    (hR : ∀ w', Mod [] w w' → R (.returned (.bool (decide (xs = ys)))) w') : Calls Tryz.prog 48 #[sa, sb] w R := by
  by_cases hl : xs.length = ys.length
  · obtain ⟨a, ca, rfl⟩ := ha.slice
    obtain ⟨b, cb, rfl⟩ := hb.slice
    refine calls_go 4000 okT Tryz.func48 rfl (rs := [.tmp 4]) rfl Tryz.ntmps48 (args := [.slice a xs.length ca, .slice b ys.length cb]) ?_
    simp (maxSteps := 1000000) (disch := first | omega | (simp only [sizeAlloc, sizeDrew, sizeSet, sizePut] <;> omega) | fail) only [GS, TT_eq, TTl, Nat.reduceAdd, Nat.reduceMul, Nat.reduceSub, Nat.reduceDiv, Nat.reduceMod, Nat.reducePow, Nat.reduceEqDiff, ↓reduceIte, reduceCtorEq, Int.reduceToNat, Int.reduceAdd, Int.reduceSub, Int.reduceMul]
    refine hold_loop okT (rs := [.tmp 4]) rfl [5] [4, 11, 12, 13, 14, 15, 16, 17, 18, 19, 20, 21, 22, 23, 24, 25] (fun vs w' => ∃ k : Nat, k ≤ xs.length ∧ vs = [.int .i64 k] ∧ Mod [] w w' ∧ xs.take k = ys.take k) (fun vs _ => match vs with | [.int _ i] => xs.length - i.toNat | _ => 0) (by kernel_rfl) ⟨0, by omega, rfl, Mod.refl _ _, by simp⟩ ?_
    rintro vs w' J ⟨k, hk, rfl, hM, ht⟩
    by_cases hlt : k < xs.length
    · obtain ⟨b1, o1, c1, e1, _, g1⟩ := (ha.mod hM (by simp)).at (by omega) (by omega)
      obtain ⟨b2, o2, c2, e2, _, g2⟩ := (hb.mod hM (by simp)).at (by omega) (by omega)
      rw [Value.slice.injEq] at e1 e2
      obtain ⟨rfl, -, -⟩ := e1
      obtain ⟨rfl, -, -⟩ := e2
      have hf1 := fun j hj => flat_get mbC 2 mbC_len xs k hlt j hj
      have hf2 := fun j hj => flat_get mbC 2 mbC_len ys k (hl ▸ hlt) j hj
      have ht1 := List.take_succ_eq_append_getElem hlt
      have ht2 := List.take_succ_eq_append_getElem (hl ▸ hlt : k < ys.length)
      have hm1 := List.getElem?_eq_getElem hlt
      have hm2 := List.getElem?_eq_getElem (hl ▸ hlt : k < ys.length)
      generalize xs[k] = m1 at hf1 ht1 hm1
      generalize ys[k]'(hl ▸ hlt) = m2 at hf2 ht2 hm2
      obtain ⟨p1, q1⟩ := m1
      obtain ⟨p2, q2⟩ := m2
      have d0 : w'.cell? ⟨b1, o1 + k * 2, none⟩ = some (.int .i64 p1) := by rw [← g1 (k * 2) _ (hf1 0 (by omega))]
      have d1 : w'.cell? ⟨b1, o1 + k * 2 + 1, none⟩ = some (.string ⟨q1.toArray⟩) := by rw [← g1 (k * 2 + 1) _ (hf1 1 (by omega))]; rfl
      have d2 : w'.cell? ⟨b2, o2 + k * 2, none⟩ = some (.int .i64 p2) := by rw [← g2 (k * 2) _ (hf2 0 (by omega))]
      have d3 : w'.cell? ⟨b2, o2 + k * 2 + 1, none⟩ = some (.string ⟨q2.toArray⟩) := by rw [← g2 (k * 2 + 1) _ (hf2 1 (by omega))]; rfl
      clear hf1 hf2 g1 g2
      by_cases hp : p1 = p2
      · by_cases hq : q1 = q2
        · subst hp hq
          have he1 : bnd (decide (p1 = p1)) (bnd (decide (q1 = q1)) true) = true := by simp [bnd]
          simp (maxSteps := 1000000) (disch := first | omega | (simp only [sizeAlloc, sizeDrew, sizeSet, sizePut] <;> omega) | fail) only [GS, TT_eq, TTl, Nat.reduceAdd, Nat.reduceMul, Nat.reduceSub, Nat.reduceDiv, Nat.reduceMod, Nat.reducePow, Nat.reduceEqDiff, ↓reduceIte, reduceCtorEq, Int.reduceToNat, Int.reduceAdd, Int.reduceSub, Int.reduceMul, d0, d1, d2, d3]
          refine ⟨by kernel_rfl, fun m => ?_⟩
          exact ⟨⟨k + 1, by omega, rfl, hM.drewN m, by rw [ht1, ht2, ht]⟩, by omega⟩
        · subst hp
          simp (maxSteps := 1000000) (disch := first | omega | (simp only [sizeAlloc, sizeDrew, sizeSet, sizePut] <;> omega) | fail) only [GS, TT_eq, TTl, Nat.reduceAdd, Nat.reduceMul, Nat.reduceSub, Nat.reduceDiv, Nat.reduceMod, Nat.reducePow, Nat.reduceEqDiff, ↓reduceIte, reduceCtorEq, Int.reduceToNat, Int.reduceAdd, Int.reduceSub, Int.reduceMul, d0, d1, d2, d3, hq]
          rw [decide_eq_false (fun e => hq (by rw [e, hm2, Option.some.injEq, Prod.mk.injEq] at hm1; exact hm1.2.symm))] at hR
          exact ⟨by kernel_rfl, fun m => hR _ (hM.drewN m)⟩
      · simp (maxSteps := 1000000) (disch := first | omega | (simp only [sizeAlloc, sizeDrew, sizeSet, sizePut] <;> omega) | fail) only [GS, TT_eq, TTl, Nat.reduceAdd, Nat.reduceMul, Nat.reduceSub, Nat.reduceDiv, Nat.reduceMod, Nat.reducePow, Nat.reduceEqDiff, ↓reduceIte, reduceCtorEq, Int.reduceToNat, Int.reduceAdd, Int.reduceSub, Int.reduceMul, d0, d1, d2, d3, hp]
        rw [decide_eq_false (fun e => hp (by rw [e, hm2, Option.some.injEq, Prod.mk.injEq] at hm1; exact hm1.1.symm))] at hR
        exact ⟨by kernel_rfl, fun m => hR _ (hM.drewN m)⟩
    · have e : k = xs.length := by omega
      subst e
      have e2 : xs = ys := by rw [List.take_length] at ht; rw [ht, hl, List.take_length]
      simp (maxSteps := 1000000) (disch := first | omega | (simp only [sizeAlloc, sizeDrew, sizeSet, sizePut] <;> omega) | fail) only [GS, TT_eq, TTl, Nat.reduceAdd, Nat.reduceMul, Nat.reduceSub, Nat.reduceDiv, Nat.reduceMod, Nat.reducePow, Nat.reduceEqDiff, ↓reduceIte, reduceCtorEq, Int.reduceToNat, Int.reduceAdd, Int.reduceSub, Int.reduceMul]
      rw [decide_eq_true e2] at hR
      exact hR _ hM
  · obtain ⟨a, ca, rfl⟩ := ha.slice
    obtain ⟨b, cb, rfl⟩ := hb.slice
    refine calls_go 4000 okT Tryz.func48 rfl (rs := [.tmp 4]) rfl Tryz.ntmps48 (args := [.slice a xs.length ca, .slice b ys.length cb]) ?_
    simp (maxSteps := 1000000) (disch := first | omega | (simp only [sizeAlloc, sizeDrew, sizeSet, sizePut] <;> omega) | fail) only [GS, TT_eq, TTl, Nat.reduceAdd, Nat.reduceMul, Nat.reduceSub, Nat.reduceDiv, Nat.reduceMod, Nat.reducePow, Nat.reduceEqDiff, ↓reduceIte, reduceCtorEq, Int.reduceToNat, Int.reduceAdd, Int.reduceSub, Int.reduceMul]
    rw [decide_eq_false (fun e => hl (by rw [e]))] at hR
    exact hR _ (Mod.refl _ _)
def longB (l : List Mb) : Bool := decide (20 < l.length) || l.any fun x => decide (20000 < x.2.length)
theorem Long12_cps (sa : Value) (l : List Mb) (w : World) (R : Ending → World → Prop) (hx : l.length ≤ 9223372036854775807) (hd : ∀ x ∈ l, x.2.length ≤ maxLen) (ha : Rd w 2 sa l.length (l.flatMap mbC)) (hR : R (.returned (.bool (longB l))) w) :
    Calls Tryz.prog 22 #[sa] w R := by
  unfold longB at hR
  obtain ⟨a, ca, rfl⟩ := ha.slice
  refine calls_go 4000 okT Tryz.func22 rfl (rs := [.tmp 2]) rfl Tryz.ntmps22 (args := [.slice a l.length ca]) ?_
  by_cases h20 : (20 : Int) < ((l.length : Nat) : Int)
  · rw [decide_eq_true (by omega : 20 < l.length), Bool.true_or] at hR
    simp (maxSteps := 1000000) (disch := first | omega | (simp only [sizeAlloc, sizeDrew, sizeSet, sizePut] <;> omega) | fail) only [GS, TT_eq, TTl, Nat.reduceAdd, Nat.reduceMul, Nat.reduceSub, Nat.reduceDiv, Nat.reduceMod, Nat.reducePow, Nat.reduceEqDiff, ↓reduceIte, reduceCtorEq, Int.reduceToNat, Int.reduceAdd, Int.reduceSub, Int.reduceMul, h20]
    exact hR
  rw [decide_eq_false (by omega : ¬ 20 < l.length), Bool.false_or] at hR
  simp (maxSteps := 1000000) (disch := first | omega | (simp only [sizeAlloc, sizeDrew, sizeSet, sizePut] <;> omega) | fail) only [GS, TT_eq, TTl, Nat.reduceAdd, Nat.reduceMul, Nat.reduceSub, Nat.reduceDiv, Nat.reduceMod, Nat.reducePow, Nat.reduceEqDiff, ↓reduceIte, reduceCtorEq, Int.reduceToNat, Int.reduceAdd, Int.reduceSub, Int.reduceMul, h20]
  refine hold_loop okT (rs := [.tmp 2]) rfl [3] [2, 7, 8, 9, 10, 11, 12, 13, 14, 15, 16, 17, 18, 19] (fun vs w' => ∃ k : Nat, k ≤ l.length ∧ vs = [.int .i64 k] ∧ w' = w ∧ ∀ x ∈ l.take k, x.2.length ≤ 20000) (fun vs _ => match vs with | [.int _ i] => l.length - i.toNat | _ => 0) (by kernel_rfl) ⟨0, by omega, rfl, rfl, by simp⟩ ?_
  rintro vs w' J ⟨k, hk, rfl, rfl, ht⟩
  by_cases hlt : k < l.length
  · obtain ⟨b1, o1, c1, e1, _, g1⟩ := ha.at (by omega) (by omega)
    rw [Value.slice.injEq] at e1
    obtain ⟨rfl, -, -⟩ := e1
    have hf1 := fun j hj => flat_get mbC 2 mbC_len l k hlt j hj
    have ht1 := List.take_succ_eq_append_getElem hlt
    have hm1 := List.getElem_mem hlt
    generalize l[k] = m1 at hf1 ht1 hm1
    obtain ⟨p1, q1⟩ := m1
    have d0 : w'.cell? ⟨b1, o1 + k * 2, none⟩ = some (.int .i64 p1) := by rw [← g1 (k * 2) _ (hf1 0 (by omega))]
    have d1 : w'.cell? ⟨b1, o1 + k * 2 + 1, none⟩ = some (.string ⟨q1.toArray⟩) := by rw [← g1 (k * 2 + 1) _ (hf1 1 (by omega))]; rfl
    have hq1 := hd _ hm1
    simp only at hq1
    clear hf1 g1
    by_cases hq : (20000 : Int) < ((q1.length : Nat) : Int)
    · rw [List.any_eq_true.2 ⟨_, hm1, decide_eq_true (show 20000 < q1.length by omega)⟩] at hR
      simp (maxSteps := 1000000) (disch := first | omega | (simp only [sizeAlloc, sizeDrew, sizeSet, sizePut] <;> omega) | fail) only [GS, TT_eq, TTl, Nat.reduceAdd, Nat.reduceMul, Nat.reduceSub, Nat.reduceDiv, Nat.reduceMod, Nat.reducePow, Nat.reduceEqDiff, ↓reduceIte, reduceCtorEq, Int.reduceToNat, Int.reduceAdd, Int.reduceSub, Int.reduceMul, d0, d1, hq]
      exact hR
    · simp (maxSteps := 1000000) (disch := first | omega | (simp only [sizeAlloc, sizeDrew, sizeSet, sizePut] <;> omega) | fail) only [GS, TT_eq, TTl, Nat.reduceAdd, Nat.reduceMul, Nat.reduceSub, Nat.reduceDiv, Nat.reduceMod, Nat.reducePow, Nat.reduceEqDiff, ↓reduceIte, reduceCtorEq, Int.reduceToNat, Int.reduceAdd, Int.reduceSub, Int.reduceMul, d0, d1, hq]
      refine ⟨⟨k + 1, by omega, rfl, ?_⟩, by omega⟩
      rw [ht1]
      intro x hx
      rcases List.mem_append.1 hx with hx | hx
      · exact ht x hx
      · rw [List.mem_singleton.1 hx]; simp only; omega
  · have e : k = l.length := by omega
    subst e
    rw [List.take_length] at ht
    have hF : (l.any fun x => decide (20000 < x.2.length)) = false := by
      cases h : l.any fun x => decide (20000 < x.2.length)
      · rfl
      · obtain ⟨x, hx, h2⟩ := List.any_eq_true.1 h
        have h3 := ht x hx
        have h4 := of_decide_eq_true h2
        omega
    rw [hF] at hR
    simp (maxSteps := 1000000) (disch := first | omega | (simp only [sizeAlloc, sizeDrew, sizeSet, sizePut] <;> omega) | fail) only [GS, TT_eq, TTl, Nat.reduceAdd, Nat.reduceMul, Nat.reduceSub, Nat.reduceDiv, Nat.reduceMod, Nat.reducePow, Nat.reduceEqDiff, ↓reduceIte, reduceCtorEq, Int.reduceToNat, Int.reduceAdd, Int.reduceSub, Int.reduceMul]
    exact hR
instance : Inhabited Mb := ⟨(0, [])⟩
theorem bPlaces_cps (sa : Value) (os : sa.oneCell' = true) (w : World) (R : Ending → World → Prop)
    (hR : R (.returned (.func (.func 163) #[] #[.pointer (some ⟨w.heap.size, 0, none⟩)])) (w.alloc (.cells #[sa] 24))) :
    Calls Tryz.prog 160 #[sa] w R := by
  refine calls_go 4000 okT Tryz.func160 rfl (rs := [.tmp 2]) rfl Tryz.ntmps160 (args := [sa]) ?_
  simp (maxSteps := 1000000) (disch := first | omega | (simp only [sizeAlloc, sizeDrew, sizeSet, sizePut] <;> omega) | fail) only [GS, TT_eq, TTl, Nat.reduceAdd, Nat.reduceMul, Nat.reduceSub, Nat.reduceDiv, Nat.reduceMod, Nat.reducePow, Nat.reduceEqDiff, ↓reduceIte, reduceCtorEq, Int.reduceToNat, Int.reduceAdd, Int.reduceSub, Int.reduceMul, os, cellsL_one os]
  exact hR
theorem box2 {w W : World} {t : Nat} {a0 a1 x0 x1 : Value} (h : ((w.alloc (.cells #[a0, a1] t)).setCell ⟨w.heap.size, 0, none⟩ x0).setCell ⟨w.heap.size, 1, none⟩ x1 = W) : W.heap[w.heap.size]? = some (.cells #[x0, x1] t (0, 0)) ∧ Mod [] w W := by
  subst h
  refine ⟨?_, (((Mod.refl [] w).alloc (.cells #[a0, a1] t)).set (p := ⟨w.heap.size, 0, none⟩) (.inr (Nat.le_refl _)) x0).set (p := ⟨w.heap.size, 1, none⟩) (.inr (Nat.le_refl _)) x1⟩
  rw [heapSet (heapSet heapNew)]
  rfl
theorem bPlaces1_cps (bx l : Nat) (pa : Option Addr) (ca : Nat) (mbs : List Mb) (w : World) (R : Ending → World → Prop) (hx : mbs.length ≤ 1000000) (Inv : Nat → World → Prop) (Out : World → Prop) (h0 : Inv 0 w)
    (hm : ∀ j w1 w2, Inv j w1 → Mod [] w1 w2 → Inv j w2)
    (hrd : ∀ j w1, Inv j w1 → Rd w1 2 (.slice pa mbs.length ca) mbs.length (mbs.flatMap mbC) ∧ w1.heap[bx]? = some (.cells #[.slice pa mbs.length ca] 24 (0, 0)))
    (hdone : ∀ w1, Inv mbs.length w1 → R (.returned (.tuple #[])) w1) (hout : ∀ w1, Out w1 → R (.returned (.tuple #[])) w1)
    (hstep : ∀ j (hj : j < mbs.length) w1, Inv j w1 → yieldW Tryz.prog l #[.int .i64 j, .int .i64 mbs[j].1] w1 (fun u w' => (u = .bool true ∧ Inv (j + 1) w') ∨ (u = .bool false ∧ Out w')) (fun _ _ => False)) :
    Calls Tryz.prog 163 #[.func (.yield l) #[] #[], .pointer (some ⟨bx, 0, none⟩)] w R := by
  have cb := fun o => cellOf (o := o) (hrd _ _ h0).2
  refine calls_go 4000 okT Tryz.func163 rfl (rs := []) rfl Tryz.ntmps163 (args := [.func (.yield l) #[] #[], .pointer (some ⟨bx, 0, none⟩)]) ?_
  simp (maxSteps := 1000000) (disch := first | omega | (simp only [sizeAlloc, sizeDrew, sizeSet, sizePut] <;> omega) | fail) only [GS, TT_eq, TTl, Nat.reduceAdd, Nat.reduceMul, Nat.reduceSub, Nat.reduceDiv, Nat.reduceMod, Nat.reducePow, Nat.reduceEqDiff, ↓reduceIte, reduceCtorEq, Int.reduceToNat, Int.reduceAdd, Int.reduceSub, Int.reduceMul, cb]
  refine hold_loop okT (rs := []) rfl [7] [3, 4, 8, 9, 10, 11, 12, 13, 14, 15, 16, 17, 18] (fun vs w' => ∃ k : Nat, k ≤ mbs.length ∧ vs = [.int .i64 k] ∧ Inv k w') (fun vs _ => match vs with | [.int _ i] => mbs.length - i.toNat | _ => 0) (by kernel_rfl) ⟨0, by omega, rfl, h0⟩ ?_
  rintro vs w1 J ⟨k, hk, rfl, hI⟩
  by_cases hlt : k < mbs.length
  rotate_left
  · have e : k = mbs.length := by omega
    subst e
    simp (maxSteps := 1000000) (disch := first | omega | (simp only [sizeAlloc, sizeDrew, sizeSet, sizePut] <;> omega) | fail) only [GS, TT_eq, TTl, Nat.reduceAdd, Nat.reduceMul, Nat.reduceSub, Nat.reduceDiv, Nat.reduceMod, Nat.reducePow, Nat.reduceEqDiff, ↓reduceIte, reduceCtorEq, Int.reduceToNat, Int.reduceAdd, Int.reduceSub, Int.reduceMul]
    exact hdone _ hI
  obtain ⟨b1, o1, c1, e1, _, g1⟩ := (hrd _ _ hI).1.at (by omega) (by omega)
  rw [Value.slice.injEq] at e1
  obtain ⟨rfl, -, -⟩ := e1
  have hfl := fun j hj => flat_get mbC 2 mbC_len mbs k hlt j hj
  have hst := fun w1 h => hstep k hlt w1 h
  generalize mbs[k] = m at hfl hst
  have d0 : w1.cell? ⟨b1, o1 + k * 2, none⟩ = some (.int .i64 m.1) := by rw [← g1 (k * 2) _ (hfl 0 (by omega))]
  have d1 : w1.cell? ⟨b1, o1 + k * 2 + 1, none⟩ = some (.string ⟨m.2.toArray⟩) := by rw [← g1 (k * 2 + 1) _ (hfl 1 (by omega))]; rfl
  simp (maxSteps := 1000000) (disch := first | omega | (simp only [sizeAlloc, sizeDrew, sizeSet, sizePut] <;> omega) | fail) only [GS, TT_eq, TTl, Nat.reduceAdd, Nat.reduceMul, Nat.reduceSub, Nat.reduceDiv, Nat.reduceMod, Nat.reducePow, Nat.reduceEqDiff, ↓reduceIte, reduceCtorEq, Int.reduceToNat, Int.reduceAdd, Int.reduceSub, Int.reduceMul, d0, d1]
  generalize hW : ((w1.alloc (.cells #[.int .i64 0, .string ⟨#[]⟩] 84)).setCell ⟨w1.heap.size, 0, none⟩ (.int .i64 m.1)).setCell ⟨w1.heap.size, 1, none⟩ (.string ⟨m.2.toArray⟩) = w2
  obtain ⟨-, hM2⟩ := box2 hW
  clear hW
  refine yieldW_mono (hst _ (hm _ _ _ hI hM2)) ?_ (fun _ _ h => h.elim)
  rintro u w3 (⟨rfl, hI3⟩ | ⟨rfl, hO⟩)
  · refine hold_ops okT (rs := []) rfl ?_
    simp (maxSteps := 1000000) (disch := first | omega | (simp only [sizeAlloc, sizeDrew, sizeSet, sizePut] <;> omega) | fail) only [GS, TT_eq, TTl, Nat.reduceAdd, Nat.reduceMul, Nat.reduceSub, Nat.reduceDiv, Nat.reduceMod, Nat.reducePow, Nat.reduceEqDiff, ↓reduceIte, reduceCtorEq, Int.reduceToNat, Int.reduceAdd, Int.reduceSub, Int.reduceMul]
    exact ⟨⟨k + 1, by omega, rfl, hI3⟩, by omega⟩
  · refine hold_ops okT (rs := []) rfl ?_
    simp (maxSteps := 1000000) (disch := first | omega | (simp only [sizeAlloc, sizeDrew, sizeSet, sizePut] <;> omega) | fail) only [GS, TT_eq, TTl, Nat.reduceAdd, Nat.reduceMul, Nat.reduceSub, Nat.reduceDiv, Nat.reduceMod, Nat.reducePow, Nat.reduceEqDiff, ↓reduceIte, reduceCtorEq, Int.reduceToNat, Int.reduceAdd, Int.reduceSub, Int.reduceMul]
    exact hout _ hO
theorem fst3 {w W : World} {a b : Value} (h : ((w.alloc (.cells #[a] 3)).alloc (.cells #[.int .i64 0] 3)).setCell ⟨w.heap.size + 1, 0, none⟩ b = W) : W.heap[w.heap.size]? = some (.cells #[a] 3 (0, 0)) ∧ W.heap[w.heap.size + 1]? = some (.cells #[b] 3 (0, 0)) ∧ Mod [] w W ∧ W.heap.size = w.heap.size + 2 := by
  subst h
  have h1 := heapNew (w := w.alloc (.cells #[a] 3)) (o := .cells #[.int .i64 0] 3)
  rw [sizeAlloc] at h1
  refine ⟨heapSetNe (heapAlloc heapNew) (by omega), ?_, (((Mod.refl [] w).alloc _).alloc _).set (.inr (by simp only; omega)) _, by rw [sizeSet, sizeAlloc, sizeAlloc]⟩
  rw [heapSet h1]
  rfl
/-- The state of a search. -/
structure FndI (w : World) (n : Nat) (mbs : List Mb) (sv : Value) (org : Int) (lp : Loop) (j : Nat) (w' : World) : Prop where
  a : w'.heap[n]? = some (.cells #[.int .i64 org] 3 (0, 0))
  b : w'.heap[n + 1]? = some (.cells #[.int .i64 (-1)] 3 (0, 0))
  c : w'.heap[n + 2]? = some (.cells #[sv] 24 (0, 0))
  d : w'.heap[n + 3]? = some (.deferred (some []))
  e : w'.heap[n + 4]? = some (.loop lp)
  no : ∀ m ∈ mbs.take j, m.1 ≠ org
  m : Mod [] w w'
structure FndO (w : World) (n : Nat) (mbs : List Mb) (org : Int) (lp : Loop) (w' : World) : Prop where
  at_ : ∃ k, ∃ h : k < mbs.length, mbs[k].1 = org ∧ w'.heap[n + 1]? = some (.cells #[.int .i64 (k : Nat)] 3 (0, 0))
  d : w'.heap[n + 3]? = some (.deferred (some []))
  e : w'.heap[n + 4]? = some (.loop { lp with state := .done, pending := some (.exit 0) })
  m : Mod [] w w'
theorem bFind_cps (sa : Value) (mbs : List Mb) (org : Int) (w : World) (R : Ending → World → Prop) (hx : mbs.length ≤ 1000000) (ha : Rd w 2 sa mbs.length (mbs.flatMap mbC))
    (h1 : ∀ k w', (hk : k < mbs.length) → mbs[k].1 = org → Mod [] w w' → R (.returned (.int .i64 (k : Nat))) w') (h0 : (∀ m ∈ mbs, m.1 ≠ org) → ∀ w', Mod [] w w' → R (.returned (.int .i64 (-1))) w') :
    Calls Tryz.prog 145 #[sa, .int .i64 org] w R := by
  obtain ⟨pa, ca, rfl⟩ := ha.slice
  refine calls_go 4000 okT Tryz.func145 rfl (rs := [.tmp 4]) rfl Tryz.ntmps145 (args := [.slice pa mbs.length ca, .int .i64 org]) ?_
  simp (maxSteps := 1000000) (disch := first | omega | (simp only [sizeAlloc, sizeDrew, sizeSet, sizePut] <;> omega) | fail) only [GS, TT_eq, TTl, Nat.reduceAdd, Nat.reduceMul, Nat.reduceSub, Nat.reduceDiv, Nat.reduceMod, Nat.reducePow, Nat.reduceEqDiff, ↓reduceIte, reduceCtorEq, Int.reduceToNat, Int.reduceAdd, Int.reduceSub, Int.reduceMul]
  refine hold_scope rfl (hold_code okT (rs := [.tmp 4]) rfl ?_)
  simp (maxSteps := 1000000) (disch := first | omega | (simp only [sizeAlloc, sizeDrew, sizeSet, sizePut] <;> omega) | fail) only [GS, TT_eq, TTl, Nat.reduceAdd, Nat.reduceMul, Nat.reduceSub, Nat.reduceDiv, Nat.reduceMod, Nat.reducePow, Nat.reduceEqDiff, ↓reduceIte, reduceCtorEq, Int.reduceToNat, Int.reduceAdd, Int.reduceSub, Int.reduceMul]
  generalize hW : ((w.alloc (.cells #[.int .i64 org] 3)).alloc (.cells #[.int .i64 0] 3)).setCell ⟨w.heap.size + 1, 0, none⟩ (.int .i64 (-1)) = w1
  obtain ⟨hA, hB, hM1, hs1⟩ := fst3 hW
  clear hW
  refine ⟨fok160, bPlaces_cps _ rfl _ _ (.inl ⟨_, rfl, hold_ops okT (rs := [.tmp 4]) rfl ?_⟩)⟩
  simp (maxSteps := 1000000) (disch := first | omega | (simp only [sizeAlloc, sizeDrew, sizeSet, sizePut] <;> omega) | fail) only [GS, TT_eq, TTl, Nat.reduceAdd, Nat.reduceMul, Nat.reduceSub, Nat.reduceDiv, Nat.reduceMod, Nat.reducePow, Nat.reduceEqDiff, ↓reduceIte, reduceCtorEq, Int.reduceToNat, Int.reduceAdd, Int.reduceSub, Int.reduceMul]
  refine hold_rangeFunc rfl fok163 fun fid => ?_
  simp only [sizeAlloc, List.toList_toArray, List.nil_append, List.cons_append, hs1]
  generalize hn : w.heap.size = n at *
  refine bPlaces1_cps (n + 2) _ pa ca mbs _ _ hx (FndI w n mbs (.slice pa mbs.length ca) org _) (fun w' => ∃ lp, FndO w n mbs org lp w') ⟨?_, ?_, ?_, ?_, heapAe (by simp only [sizeAlloc, hs1]), by simp, ?_⟩ ?_ ?_ ?_ ?_ ?_
  · exact heapAlloc (heapAlloc (heapAlloc hA))
  · exact heapAlloc (heapAlloc (heapAlloc hB))
  · have := heapNew (w := w1) (o := .cells #[.slice pa mbs.length ca] 24)
    rw [hs1] at this
    exact heapAlloc (heapAlloc this)
  · refine heapAlloc ?_
    have := heapNew (w := w1.alloc (.cells #[.slice pa mbs.length ca] 24)) (o := .deferred (some []))
    rw [sizeAlloc, hs1] at this
    exact this
  · exact ((hM1.alloc _).alloc _).alloc _
  · intro j w2 w3 h hM
    exact ⟨hM.get h.a (by simp), hM.get h.b (by simp), hM.get h.c (by simp), hM.get h.d (by simp), hM.get h.e (by simp), h.no, h.m.trans hM (by simp)⟩
  · intro j w2 h
    exact ⟨ha.mod h.m (by simp), h.c⟩
  · intro w2 h
    refine ⟨_, .normal, h.e, by simp, rfl, hold_ex okT (rs := [.tmp 4]) rfl ?_⟩
    generalize hW : w2.putObj _ _ = w3
    have hM3 : Mod [n + 4] w2 w3 := by rw [← hW]; exact (Mod.refl _ _).put (.inl (by simp)) _
    have cB := fun o => cellOf (o := o) (hM3.get h.b (by simp))
    have hno := h.no
    rw [List.take_length] at hno
    simp (maxSteps := 1000000) (disch := first | omega | (simp only [sizeAlloc, sizeDrew, sizeSet, sizePut] <;> omega) | fail) only [GS, TT_eq, TTl, Nat.reduceAdd, Nat.reduceMul, Nat.reduceSub, Nat.reduceDiv, Nat.reduceMod, Nat.reducePow, Nat.reduceEqDiff, ↓reduceIte, reduceCtorEq, Int.reduceToNat, Int.reduceAdd, Int.reduceSub, Int.reduceMul, cB]
    refine ⟨_, rfl, hM3.get h.d (by simp), ?_⟩
    generalize hW4 : w3.putObj _ _ = w4
    have hM4 : Mod [n + 3] w3 w4 := by rw [← hW4]; exact (Mod.refl _ _).put (.inl (by simp)) _
    have hm04 := (h.m.trans hM3 (fun x hx => .inr (by simp at hx; omega))).trans hM4 (fun x hx => .inr (by simp at hx; omega))
    simp (maxSteps := 1000000) only [GS, TT_eq, TTl, Nat.reduceAdd, Nat.reduceMul, Nat.reduceSub, Nat.reduceDiv, Nat.reduceMod, Nat.reducePow, Nat.reduceEqDiff, ↓reduceIte, reduceCtorEq, Int.reduceToNat, Int.reduceAdd, Int.reduceSub, Int.reduceMul, leaveW]
    exact h0 hno _ hm04
  · rintro w2 ⟨lp, h⟩
    obtain ⟨k, hk, hko, hB2⟩ := h.at_
    refine ⟨_, .exit 0, h.e, by simp, rfl, hold_ex okT (rs := [.tmp 4]) rfl ?_⟩
    generalize hW : w2.putObj _ _ = w3
    have hM3 : Mod [n + 4] w2 w3 := by rw [← hW]; exact (Mod.refl _ _).put (.inl (by simp)) _
    have cB := fun o => cellOf (o := o) (hM3.get hB2 (by simp))
    simp (maxSteps := 1000000) (disch := first | omega | (simp only [sizeAlloc, sizeDrew, sizeSet, sizePut] <;> omega) | fail) only [GS, TT_eq, TTl, Nat.reduceAdd, Nat.reduceMul, Nat.reduceSub, Nat.reduceDiv, Nat.reduceMod, Nat.reducePow, Nat.reduceEqDiff, ↓reduceIte, reduceCtorEq, Int.reduceToNat, Int.reduceAdd, Int.reduceSub, Int.reduceMul, cB]
    refine ⟨_, rfl, hM3.get h.d (by simp), ?_⟩
    generalize hW4 : w3.putObj _ _ = w4
    have hM4 : Mod [n + 3] w3 w4 := by rw [← hW4]; exact (Mod.refl _ _).put (.inl (by simp)) _
    have hm04 := (h.m.trans hM3 (fun x hx => .inr (by simp at hx; omega))).trans hM4 (fun x hx => .inr (by simp at hx; omega))
    simp (maxSteps := 1000000) only [GS, TT_eq, TTl, Nat.reduceAdd, Nat.reduceMul, Nat.reduceSub, Nat.reduceDiv, Nat.reduceMod, Nat.reducePow, Nat.reduceEqDiff, ↓reduceIte, reduceCtorEq, Int.reduceToNat, Int.reduceAdd, Int.reduceSub, Int.reduceMul, leaveW]
    exact h1 k _ hk hko hm04
  · intro j hj w2 h
    refine yieldW_of (args := [.int .i64 j, .int .i64 mbs[j].1]) h.e rfl (hold_code okT (rs := []) rfl ?_)
    have htk := List.take_succ_eq_append_getElem hj
    have hat := fun (h : mbs[j].1 = org) => (⟨j, hj, h⟩ : ∃ k, ∃ h : k < mbs.length, mbs[k].1 = org)
    have hat2 : ∀ {P : Nat → Prop}, mbs[j].1 = org → P j → ∃ k, ∃ h : k < mbs.length, mbs[k].1 = org ∧ P k := fun h hp => ⟨j, hj, h, hp⟩
    clear hat
    generalize mbs[j] = mj at htk hat2 ⊢
    simp (maxSteps := 1000000) (disch := first | omega | (simp only [sizeAlloc, sizeDrew, sizeSet, sizePut] <;> omega) | fail) only [GS, TT_eq, TTl, Nat.reduceAdd, Nat.reduceMul, Nat.reduceSub, Nat.reduceDiv, Nat.reduceMod, Nat.reducePow, Nat.reduceEqDiff, ↓reduceIte, reduceCtorEq, Int.reduceToNat, Int.reduceAdd, Int.reduceSub, Int.reduceMul]
    refine ⟨rfl, rfl, _, h.e, rfl, hold_code okT (rs := []) rfl ?_⟩
    generalize hO : Obj.loop _ = o3
    generalize hW : w2.putObj _ o3 = w3
    have hM3 : Mod [n + 4] w2 w3 := by rw [← hW]; exact (Mod.refl _ _).put (.inl (by simp)) _
    have g3 : w3.heap[n + 4]? = some o3 := by rw [← hW]; exact heapPe h.e
    rw [← hO] at g3
    clear hO hW
    have gA := hM3.get h.a (by simp)
    have gB := hM3.get h.b (by simp)
    have gC := hM3.get h.c (by simp)
    have gD := hM3.get h.d (by simp)
    have cA := fun o => cellOf (o := o) gA
    have cB := fun o => cellOf (o := o) gB
    have xB := fun o => frozenOf (o := o) gB
    have hm03 := h.m.trans hM3 (fun x hx => .inr (by simp at hx; omega))
    by_cases he : mj.1 = org
    · simp (maxSteps := 1000000) (disch := first | omega | (simp only [sizeAlloc, sizeDrew, sizeSet, sizePut] <;> omega) | fail) only [GS, TT_eq, TTl, Nat.reduceAdd, Nat.reduceMul, Nat.reduceSub, Nat.reduceDiv, Nat.reduceMod, Nat.reducePow, Nat.reduceEqDiff, ↓reduceIte, reduceCtorEq, Int.reduceToNat, Int.reduceAdd, Int.reduceSub, Int.reduceMul, cA, cB, xB, he, eq_self]
      have hl4 := heapSetNe (b := n + 1) (j := 0) (u := .int .i64 (j : Int)) g3 (by omega)
      refine ⟨_, hl4, .inr ⟨rfl, _, ⟨hat2 he ?_, ?_, heapPe hl4, ?_⟩⟩⟩
      · rw [heapPn (by omega), heapSet gB]
        rfl
      · rw [heapPn (by omega)]
        exact heapSetNe gD (by omega)
      · exact (hm03.set (p := ⟨n + 1, 0, none⟩) (.inr (by simp only; omega)) _).put (.inr (by omega)) _
    · simp (maxSteps := 1000000) (disch := first | omega | (simp only [sizeAlloc, sizeDrew, sizeSet, sizePut] <;> omega) | fail) only [GS, TT_eq, TTl, Nat.reduceAdd, Nat.reduceMul, Nat.reduceSub, Nat.reduceDiv, Nat.reduceMod, Nat.reducePow, Nat.reduceEqDiff, ↓reduceIte, reduceCtorEq, Int.reduceToNat, Int.reduceAdd, Int.reduceSub, Int.reduceMul, cA, he]
      refine ⟨_, g3, .inl ⟨rfl, ⟨?_, ?_, ?_, ?_, heapPe g3, ?_, hm03.put (.inr (by omega)) _⟩⟩⟩
      · rw [heapPn (by omega)]; exact gA
      · rw [heapPn (by omega)]; exact gB
      · rw [heapPn (by omega)]; exact gC
      · rw [heapPn (by omega)]; exact gD
      · rw [htk]
        intro m hm
        rcases List.mem_append.1 hm with hm | hm
        · exact h.no m hm
        · rw [List.mem_singleton.1 hm]; exact he
end Go.Proofs.YtdflchgfhmjhbaaGreatDoor
