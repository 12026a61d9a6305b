/-
  wire.untxn (walk). wire: what the terms of rows, numbers, transactions and members say (plain). wire: members and transactions that come in. chirographref12.SameMembers (walk). chirographlaw12.Long (walk). The reference's members (walks). env: the range over an envelope's numbers (walk).
-/
import Derived.Test.YtdflchgfhmjhbaaGreatDoorQoW1
import Derived.Test.YtdflchgfhmjhbaaGreatDoorQoTrp
import Derived.Test.YtdflchgfhmjhbaaGreatDoorQoRd
import Derived.Test.YtdflchgfhmjhbaaGreatDoorQoZ3
import Derived.Test.YtdflchgfhmjhbaaGreatDoorQoZ1
set_option linter.unusedSimpArgs false
set_option linter.unusedVariables false
namespace Go.Proofs.YtdflchgfhmjhbaaGreatDoor
set_option maxHeartbeats 8000000
set_option maxRecDepth 20000
open Go Go.Wk Go.RowKit
attribute [local irreducible] go Hold
open Go.Lib
def untxO (S : List UInt8) : Option Tx := match rowO S 3 3 with
  | some l => (match numT (l.getD 0 []), numT (l.getD 1 []), numT (l.getD 2 []) with
    | some a, some b, some c => if txB ((a : Int), (b : Int), (c : Int)) = true then some ((a : Int), (b : Int), (c : Int)) else none
    | _, _, _ => none)
  | none => none
theorem st3 {w : World} {p t : Nat} {a b c x y z : Value} (h : w.heap[p]? = some (.cells #[a, b, c] t)) : (((w.setCell ⟨p, 0, none⟩ x).setCell ⟨p, 1, none⟩ y).setCell ⟨p, 2, none⟩ z).heap[p]? = some (.cells #[x, y, z] t) := by
  rw [heapSet (heapSet (heapSet h))]; rfl
theorem st6 {w : World} {p t : Nat} {a b c d e f x y z u v q : Value} (h : w.heap[p]? = some (.cells #[a, b, c, d, e, f] t)) : ((((((w.setCell ⟨p, 0, none⟩ x).setCell ⟨p, 1, none⟩ y).setCell ⟨p, 2, none⟩ z).setCell ⟨p, 3, none⟩ u).setCell ⟨p, 4, none⟩ v).setCell ⟨p, 5, none⟩ q).heap[p]? = some (.cells #[x, y, z, u, v, q] t) := by
  rw [heapSet (heapSet (heapSet (heapSet (heapSet (heapSet h)))))]; rfl
theorem cellM {w w' : World} {b o : Nat} {v : Value} (h : w.cell? ⟨b, o, none⟩ = some v) (hm : Mod [] w w') : w'.cell? ⟨b, o, none⟩ = some v := by
  rw [World.cell?_of_block (w := w) (hm.block b (World.block_lt_of_cell? w _ h) (by simp))]
  exact h
theorem wUntxn_cps (S : List UInt8) (hS : S.length ≤ maxLen) (w : World) (R : Ending → World → Prop) (h1 : ∀ x w', untxO S = some x → Mod [] w w' → R (.returned (txV x)) w') (h0 : untxO S = none → ∀ w', Mod [] w w' → R (.panicked wnoneV) w') :
    Calls Tryz.prog 140 #[.string ⟨S.toArray⟩] w R := by
  generalize hX : untxO S = X at h1 h0
  unfold untxO at hX
  refine calls_go 4000 okT Tryz.func140 rfl (rs := [.cell 2 23]) rfl Tryz.ntmps140 (args := [.string ⟨S.toArray⟩]) ?_
  simp (disch := first | omega | (simp only [SZ] <;> omega) | fail) only [GS, TT_eq, TTl, seval]
  have hM := (Mod.refl [] w).alloc (.cells #[.int .i64 0, .int .i64 0, .int .i64 0] 23)
  have hb := heapNew (w := w) (o := .cells #[.int .i64 0, .int .i64 0, .int .i64 0] 23)
  generalize w.alloc (.cells #[.int .i64 0, .int .i64 0, .int .i64 0] 23) = w1 at hM hb ⊢
  generalize hn : w.heap.size = n at *
  refine ⟨fok139, wRow_cps S 3 3 (by decide) (by decide) hS _ _ (fun l lv w2 hp hpo hM2 => .inl ⟨_, rfl, hold_ops okT (rs := [.cell 2 23]) rfl ?_⟩) (fun hp w2 hM2 => .inr ⟨_, rfl, hold_ex okT (rs := [.cell 2 23]) rfl ?_⟩)⟩
  · rw [hp] at hX
    obtain ⟨hpc, hp1, hp3, -, -⟩ := rowO_ok hp
    obtain ⟨t0, t1, t2, rfl⟩ := len3 (show l.length = 3 by omega)
    simp only [List.getD_cons_zero, List.getD_cons_succ] at hX
    have z0 := (check0 (hpc t0 (by simp))).2.2.1
    have z1 := (check0 (hpc t1 (by simp))).2.2.1
    have z2 := (check0 (hpc t2 (by simp))).2.2.1
    obtain ⟨b2, o2, c2, e2, _, g2⟩ := (Rd.own hpo).at (by omega) (by simp)
    have f0 : w2.cell? ⟨b2, o2, none⟩ = some (.string ⟨t0.toArray⟩) := g2 0 _ rfl
    have f1 : w2.cell? ⟨b2, o2 + 1, none⟩ = some (.string ⟨t1.toArray⟩) := g2 1 _ rfl
    have f2 : w2.cell? ⟨b2, o2 + 2, none⟩ = some (.string ⟨t2.toArray⟩) := g2 2 _ rfl
    subst e2
    have hb2 := hM2.get hb (by simp)
    have hM02 := hM.trans hM2 (by simp)
    simp (disch := first | omega | (simp only [SZ] <;> omega) | fail) only [GS, TT_eq, TTl, seval]
    refine hold_tree okT [0, 1, 3, 7, 0, 16, 48, 127, 0, 256, 768, 2047, 4095, 0, 16383] (.qop 0 (.qop 1 (.qop 2 (.qop 4 (.qop 5 (.qop 6 (.qop 8 (.qop 9 (.qop 10 (.eff 3 (.eff 7 (.eff 11 (.lin [12, 13, 14]) (.eff 13 (.lin [11, 12, 14]) .stop)) (.eff 13 (.lin [7, 11, 12, 14]) .stop)) (.eff 13 (.lin [3, 7, 11, 12, 14]) .stop))))))))))) (by kernel_rfl) ?_
    have f0' : (w2.drewN 1).cell? ⟨b2, o2, none⟩ = some (.string ⟨t0.toArray⟩) := f0
    have f1' : (w2.drewN 1).cell? ⟨b2, o2 + 1, none⟩ = some (.string ⟨t1.toArray⟩) := f1
    have f2' : (w2.drewN 1).cell? ⟨b2, o2 + 2, none⟩ = some (.string ⟨t2.toArray⟩) := f2
    have hb3 : (w2.drewN 1).heap[n]? = _ := hb2
    have hM3 := hM02.drewN 1
    generalize w2.drewN 1 = w3 at *
    clear f0 f1 f2 hb2 hpo g2
    refine ht_val okT rfl rfl (v := .slice (some ⟨b2, o2, none⟩) 3 c2) (by simp (maxSteps := 1000000) only [GS, TT_eq, TTl, Nat.reduceAdd, Nat.reduceMul, Nat.reduceSub, Nat.reduceDiv, Nat.reduceMod, Nat.reducePow, Nat.reduceEqDiff, ↓reduceIte, reduceCtorEq, Int.reduceToNat, Int.reduceAdd, Int.reduceSub, Int.reduceMul]) ?_
    refine ht_val okT rfl rfl (v := .pointer (some ⟨b2, o2, none⟩)) (by simp (disch := first | omega | (simp only [SZ] <;> omega) | fail) only [GS, TT_eq, TTl, seval]) ?_
    refine ht_val okT rfl rfl (v := .string ⟨t0.toArray⟩) (by simp (disch := first | omega | (simp only [SZ] <;> omega) | fail) only [GS, TT_eq, TTl, seval, f0']) ?_
    refine ht_val okT rfl rfl (v := .slice (some ⟨b2, o2, none⟩) 3 c2) (by simp (maxSteps := 1000000) only [GS, TT_eq, TTl, Nat.reduceAdd, Nat.reduceMul, Nat.reduceSub, Nat.reduceDiv, Nat.reduceMod, Nat.reducePow, Nat.reduceEqDiff, ↓reduceIte, reduceCtorEq, Int.reduceToNat, Int.reduceAdd, Int.reduceSub, Int.reduceMul]) ?_
    refine ht_val okT rfl rfl (v := .pointer (some ⟨b2, o2 + 1, none⟩)) (by simp (disch := first | omega | (simp only [SZ] <;> omega) | fail) only [GS, TT_eq, TTl, seval]) ?_
    refine ht_val okT rfl rfl (v := .string ⟨t1.toArray⟩) (by simp (disch := first | omega | (simp only [SZ] <;> omega) | fail) only [GS, TT_eq, TTl, seval, f1']) ?_
    refine ht_val okT rfl rfl (v := .slice (some ⟨b2, o2, none⟩) 3 c2) (by simp (maxSteps := 1000000) only [GS, TT_eq, TTl, Nat.reduceAdd, Nat.reduceMul, Nat.reduceSub, Nat.reduceDiv, Nat.reduceMod, Nat.reducePow, Nat.reduceEqDiff, ↓reduceIte, reduceCtorEq, Int.reduceToNat, Int.reduceAdd, Int.reduceSub, Int.reduceMul]) ?_
    refine ht_val okT rfl rfl (v := .pointer (some ⟨b2, o2 + 2, none⟩)) (by simp (disch := first | omega | (simp only [SZ] <;> omega) | fail) only [GS, TT_eq, TTl, seval]) ?_
    refine ht_val okT rfl rfl (v := .string ⟨t2.toArray⟩) (by simp (disch := first | omega | (simp only [SZ] <;> omega) | fail) only [GS, TT_eq, TTl, seval, f2']) ?_
    simp (maxSteps := 1000000) only [GS, TT_eq, TTl, Nat.reduceAdd, Nat.reduceMul, Nat.reduceSub, Nat.reduceDiv, Nat.reduceMod, Nat.reducePow, Nat.reduceEqDiff, ↓reduceIte, reduceCtorEq, Int.reduceToNat, Int.reduceAdd, Int.reduceSub, Int.reduceMul]
    have gw33 := f0'
    have gw37 := f1'
    have gw311 := f2'
    have hbw3 := hb3
    have hMw3 := hM3
    clear f0' f1' f2' hb3 hM3
    refine ht_call okT rfl rfl ?_ ?_
    · simp (disch := first | omega | (simp only [SZ] <;> omega) | fail) only [GS, TT_eq, TTl, seval]
      refine ⟨fok120, wUnnum_cps t0 (by unfold maxLen; omega) _ _ (fun v3 w11 hv hm => .inl ⟨_, rfl, ⟨cellM gw311 hm, cellM gw37 hm⟩, ?_⟩) (fun hv w11 hm => .inr ⟨_, rfl, fun fs' => hold_ex okT (rs := [.cell 2 23]) rfl ?_⟩)⟩
      · rw [hv] at hX
        have gw113 := cellM gw33 hm
        have gw117 := cellM gw37 hm
        have gw1111 := cellM gw311 hm
        have hbw11 := hm.get hbw3 (by simp)
        have hMw11 := hMw3.trans hm (by simp)
        clear hm hv
        refine ht_call okT rfl rfl ?_ ?_
        · simp (disch := first | omega | (simp only [SZ] <;> omega) | fail) only [GS, TT_eq, TTl, seval]
          refine ⟨fok120, wUnnum_cps t1 (by unfold maxLen; omega) _ _ (fun v7 w12 hv hm => .inl ⟨_, rfl, cellM gw1111 hm, ?_⟩) (fun hv w12 hm => .inr ⟨_, rfl, fun fs' => hold_ex okT (rs := [.cell 2 23]) rfl ?_⟩)⟩
          · rw [hv] at hX
            have gw123 := cellM gw113 hm
            have gw127 := cellM gw117 hm
            have gw1211 := cellM gw1111 hm
            have hbw12 := hm.get hbw11 (by simp)
            have hMw12 := hMw11.trans hm (by simp)
            clear hm hv
            refine ht_call okT rfl rfl ?_ ?_
            · simp (disch := first | omega | (simp only [SZ] <;> omega) | fail) only [GS, TT_eq, TTl, seval]
              refine ⟨fok120, wUnnum_cps t2 (by unfold maxLen; omega) _ _ (fun v11 w13 hv hm => .inl ⟨_, rfl, ?_⟩) (fun hv w13 hm => .inr ⟨_, rfl, fun fs' => hold_ex okT (rs := [.cell 2 23]) rfl ?_⟩)⟩
              · rw [hv] at hX
                have gw133 := cellM gw123 hm
                have gw137 := cellM gw127 hm
                have gw1311 := cellM gw1211 hm
                have hbw13 := hm.get hbw12 (by simp)
                have hMw13 := hMw12.trans hm (by simp)
                clear hm hv
                refine ht_lin rfl (hold_dops okT (rs := [.cell 2 23]) rfl ?_)
                simp (disch := first | omega | (simp only [SZ] <;> omega) | fail) only [GS, TT_eq, TTl, seval]
                have hm := (Mod.refl [] w13).alloc (.cells #[.int .i64 0, .int .i64 0, .int .i64 0] 23)
                have hcs := st3 (heapNew (w := w13) (o := .cells #[.int .i64 0, .int .i64 0, .int .i64 0] 23)) (x := .int .i64 v3) (y := .int .i64 v7) (z := .int .i64 v11)
                have hwb := hMw13.size
                have hnb : n < w13.heap.size := (Array.getElem?_eq_some_iff.1 hbw13).1
                have hbs : ((((w13.alloc (.cells #[.int .i64 0, .int .i64 0, .int .i64 0] 23)).setCell ⟨w13.heap.size, 0, none⟩ (.int .i64 v3)).setCell ⟨w13.heap.size, 1, none⟩ (.int .i64 v7)).setCell ⟨w13.heap.size, 2, none⟩ (.int .i64 v11)).heap[n]? = _ := heapSetNe (heapSetNe (heapSetNe (hm.get hbw13 (by simp)) (by omega)) (by omega)) (by omega)
                have hMs : Mod [] w ((((w13.alloc (.cells #[.int .i64 0, .int .i64 0, .int .i64 0] 23)).setCell ⟨w13.heap.size, 0, none⟩ (.int .i64 v3)).setCell ⟨w13.heap.size, 1, none⟩ (.int .i64 v7)).setCell ⟨w13.heap.size, 2, none⟩ (.int .i64 v11)) := (((hMw13.alloc _).set (.inr hwb) _).set (.inr hwb) _).set (.inr hwb) _
                generalize ((((w13.alloc (.cells #[.int .i64 0, .int .i64 0, .int .i64 0] 23)).setCell ⟨w13.heap.size, 0, none⟩ (.int .i64 v3)).setCell ⟨w13.heap.size, 1, none⟩ (.int .i64 v7)).setCell ⟨w13.heap.size, 2, none⟩ (.int .i64 v11)) = w20 at hcs hbs hMs ⊢
                generalize w13.heap.size = b4 at hnb hwb hcs hbs hMs ⊢
                refine ⟨⟨cellM gw1311 hm, cellM gw137 hm, cellM gw133 hm⟩, fok73, wMayTxn_cps ((v3 : Int), (v7 : Int), (v11 : Int)) _ _ fun w21 hm2 => .inl ⟨_, rfl, hold_ops okT (rs := [.cell 2 23]) rfl ?_⟩⟩
                have hcs2 := hm2.get hcs (by simp)
                have hbs2 := hm2.get hbs (by simp)
                have hMs2 := hMs.trans hm2 (by simp)
                simp (disch := first | omega | (simp only [SZ] <;> omega) | fail) only [GS, TT_eq, TTl, seval]
                simp only at hX
                refine ⟨fok127, wMust_cps _ _ _ (fun ht => .inl ⟨_, rfl, hold_ops okT (rs := [.cell 2 23]) rfl ?_⟩) (fun ht => .inr ⟨_, rfl, hold_ex okT (rs := [.cell 2 23]) rfl ?_⟩)⟩
                · rw [if_pos ht] at hX
                  simp (disch := first | omega | (simp only [SZ] <;> omega) | fail) only [GS, TT_eq, TTl, seval, cellOf hcs2, cellOf hbs2, frozenOf hbs2]
                  have hcf := st3 hbs2 (x := .int .i64 v3) (y := .int .i64 v7) (z := .int .i64 v11)
                  have hMf : Mod [] w ((((w21).setCell ⟨n, 0, none⟩ (.int .i64 v3)).setCell ⟨n, 1, none⟩ (.int .i64 v7)).setCell ⟨n, 2, none⟩ (.int .i64 v11)) := ((hMs2.set (.inr (by simp only; omega)) _).set (.inr (by simp only; omega)) _).set (.inr (by simp only; omega)) _
                  generalize ((((w21).setCell ⟨n, 0, none⟩ (.int .i64 v3)).setCell ⟨n, 1, none⟩ (.int .i64 v7)).setCell ⟨n, 2, none⟩ (.int .i64 v11)) = w22 at hcf hMf ⊢
                  simp (disch := first | omega | (simp only [SZ] <;> omega) | fail) only [GS, TT_eq, TTl, seval, loadW]
                  refine ⟨_, cellOf hcf, _, cellOf hcf, _, cellOf hcf, ?_⟩
                  exact h1 _ _ hX.symm hMf
                · rw [if_neg (by simp [ht])] at hX
                  simp (disch := first | omega | (simp only [SZ] <;> omega) | fail) only [GS, TT_eq, TTl, seval]
                  exact h0 hX.symm _ hMs2
              · rw [hv] at hX
                simp (disch := first | omega | (simp only [SZ] <;> omega) | fail) only [GS, TT_eq, TTl, seval]
                exact h0 (by rw [← hX]; repeat (first | rfl | split)) _ (hMw12.trans hm (by simp))
            · refine ht_eff okT rfl rfl (v := .pointer (some ⟨w12.heap.size, 0, none⟩)) (w' := w12.alloc (.cells #[.int .i64 0, .int .i64 0, .int .i64 0] 23)) (by simp (maxSteps := 1000000) only [GS, TT_eq, TTl, Nat.reduceAdd, Nat.reduceMul, Nat.reduceSub, Nat.reduceDiv, Nat.reduceMod, Nat.reducePow, Nat.reduceEqDiff, ↓reduceIte, reduceCtorEq, Int.reduceToNat, Int.reduceAdd, Int.reduceSub, Int.reduceMul]) ?_ ?_ ht_stop
              all_goals have hm := (Mod.refl [] w12).alloc (.cells #[.int .i64 0, .int .i64 0, .int .i64 0] 23)
              all_goals have hcw14 := heapNew (w := w12) (o := .cells #[.int .i64 0, .int .i64 0, .int .i64 0] 23)
              all_goals generalize w12.alloc (.cells #[.int .i64 0, .int .i64 0, .int .i64 0] 23) = w14 at hm hcw14 ⊢
              · simp (maxSteps := 1000000) only [GS, TT_eq, TTl, Nat.reduceAdd, Nat.reduceMul, Nat.reduceSub, Nat.reduceDiv, Nat.reduceMod, Nat.reducePow, Nat.reduceEqDiff, ↓reduceIte, reduceCtorEq, Int.reduceToNat, Int.reduceAdd, Int.reduceSub, Int.reduceMul]
                exact ⟨cellM gw1211 hm, cellM gw127 hm, cellM gw123 hm⟩
              have gw143 := cellM gw123 hm
              have gw147 := cellM gw127 hm
              have gw1411 := cellM gw1211 hm
              have hnb : n < w12.heap.size := (Array.getElem?_eq_some_iff.1 hbw12).1
              have hbw14 := hm.get hbw12 (by simp)
              have hMw14 := hMw12.trans hm (by simp)
              clear hm
              have hwb := hMw12.size
              generalize w12.heap.size = b4 at hnb hwb hcw14 ⊢
              simp (maxSteps := 1000000) only [GS, TT_eq, TTl, Nat.reduceAdd, Nat.reduceMul, Nat.reduceSub, Nat.reduceDiv, Nat.reduceMod, Nat.reducePow, Nat.reduceEqDiff, ↓reduceIte, reduceCtorEq, Int.reduceToNat, Int.reduceAdd, Int.reduceSub, Int.reduceMul]
              refine ht_lin rfl (hold_dops okT (rs := [.cell 2 23]) rfl ?_)
              simp (disch := first | omega | (simp only [SZ] <;> omega) | fail) only [GS, TT_eq, TTl, seval]
              refine ⟨fok120, wUnnum_cps t2 (by unfold maxLen; omega) _ _ (fun v11 w15 hv hm => .inl ⟨_, rfl, hold_dops okT (rs := [.cell 2 23]) rfl ?_⟩) (fun hv w15 hm => .inr ⟨_, rfl, fun fs' => hold_ex okT (rs := [.cell 2 23]) rfl ?_⟩)⟩
              · rw [hv] at hX
                have gw153 := cellM gw143 hm
                have gw157 := cellM gw147 hm
                have gw1511 := cellM gw1411 hm
                have hbw15 := hm.get hbw14 (by simp)
                have hMw15 := hMw14.trans hm (by simp)
                have hcw15 := hm.get hcw14 (by simp)
                clear hm hv
                simp (disch := first | omega | (simp only [SZ] <;> omega) | fail) only [GS, TT_eq, TTl, seval, cellOf hcw15, frozenOf hcw15]
                have hcs := st3 hcw15 (x := .int .i64 v3) (y := .int .i64 v7) (z := .int .i64 v11)
                have hbs : ((((w15).setCell ⟨b4, 0, none⟩ (.int .i64 v3)).setCell ⟨b4, 1, none⟩ (.int .i64 v7)).setCell ⟨b4, 2, none⟩ (.int .i64 v11)).heap[n]? = _ := heapSetNe (heapSetNe (heapSetNe hbw15 (by omega)) (by omega)) (by omega)
                have hMs : Mod [] w ((((w15).setCell ⟨b4, 0, none⟩ (.int .i64 v3)).setCell ⟨b4, 1, none⟩ (.int .i64 v7)).setCell ⟨b4, 2, none⟩ (.int .i64 v11)) := ((hMw15.set (.inr hwb) _).set (.inr hwb) _).set (.inr hwb) _
                generalize ((((w15).setCell ⟨b4, 0, none⟩ (.int .i64 v3)).setCell ⟨b4, 1, none⟩ (.int .i64 v7)).setCell ⟨b4, 2, none⟩ (.int .i64 v11)) = w20 at hcs hbs hMs ⊢
                refine ⟨fok73, wMayTxn_cps ((v3 : Int), (v7 : Int), (v11 : Int)) _ _ fun w21 hm2 => .inl ⟨_, rfl, hold_ops okT (rs := [.cell 2 23]) rfl ?_⟩⟩
                have hcs2 := hm2.get hcs (by simp)
                have hbs2 := hm2.get hbs (by simp)
                have hMs2 := hMs.trans hm2 (by simp)
                simp (disch := first | omega | (simp only [SZ] <;> omega) | fail) only [GS, TT_eq, TTl, seval]
                simp only at hX
                refine ⟨fok127, wMust_cps _ _ _ (fun ht => .inl ⟨_, rfl, hold_ops okT (rs := [.cell 2 23]) rfl ?_⟩) (fun ht => .inr ⟨_, rfl, hold_ex okT (rs := [.cell 2 23]) rfl ?_⟩)⟩
                · rw [if_pos ht] at hX
                  simp (disch := first | omega | (simp only [SZ] <;> omega) | fail) only [GS, TT_eq, TTl, seval, cellOf hcs2, cellOf hbs2, frozenOf hbs2]
                  have hcf := st3 hbs2 (x := .int .i64 v3) (y := .int .i64 v7) (z := .int .i64 v11)
                  have hMf : Mod [] w ((((w21).setCell ⟨n, 0, none⟩ (.int .i64 v3)).setCell ⟨n, 1, none⟩ (.int .i64 v7)).setCell ⟨n, 2, none⟩ (.int .i64 v11)) := ((hMs2.set (.inr (by simp only; omega)) _).set (.inr (by simp only; omega)) _).set (.inr (by simp only; omega)) _
                  generalize ((((w21).setCell ⟨n, 0, none⟩ (.int .i64 v3)).setCell ⟨n, 1, none⟩ (.int .i64 v7)).setCell ⟨n, 2, none⟩ (.int .i64 v11)) = w22 at hcf hMf ⊢
                  simp (disch := first | omega | (simp only [SZ] <;> omega) | fail) only [GS, TT_eq, TTl, seval, loadW]
                  refine ⟨_, cellOf hcf, _, cellOf hcf, _, cellOf hcf, ?_⟩
                  exact h1 _ _ hX.symm hMf
                · rw [if_neg (by simp [ht])] at hX
                  simp (disch := first | omega | (simp only [SZ] <;> omega) | fail) only [GS, TT_eq, TTl, seval]
                  exact h0 hX.symm _ hMs2
              · rw [hv] at hX
                simp (disch := first | omega | (simp only [SZ] <;> omega) | fail) only [GS, TT_eq, TTl, seval]
                exact h0 (by rw [← hX]; repeat (first | rfl | split)) _ (hMw14.trans hm (by simp))
          · rw [hv] at hX
            simp (disch := first | omega | (simp only [SZ] <;> omega) | fail) only [GS, TT_eq, TTl, seval]
            exact h0 (by rw [← hX]; repeat (first | rfl | split)) _ (hMw11.trans hm (by simp))
        · refine ht_eff okT rfl rfl (v := .pointer (some ⟨w11.heap.size, 0, none⟩)) (w' := w11.alloc (.cells #[.int .i64 0, .int .i64 0, .int .i64 0] 23)) (by simp (maxSteps := 1000000) only [GS, TT_eq, TTl, Nat.reduceAdd, Nat.reduceMul, Nat.reduceSub, Nat.reduceDiv, Nat.reduceMod, Nat.reducePow, Nat.reduceEqDiff, ↓reduceIte, reduceCtorEq, Int.reduceToNat, Int.reduceAdd, Int.reduceSub, Int.reduceMul]) ?_ ?_ ht_stop
          all_goals have hm := (Mod.refl [] w11).alloc (.cells #[.int .i64 0, .int .i64 0, .int .i64 0] 23)
          all_goals have hcw16 := heapNew (w := w11) (o := .cells #[.int .i64 0, .int .i64 0, .int .i64 0] 23)
          all_goals generalize w11.alloc (.cells #[.int .i64 0, .int .i64 0, .int .i64 0] 23) = w16 at hm hcw16 ⊢
          · simp (maxSteps := 1000000) only [GS, TT_eq, TTl, Nat.reduceAdd, Nat.reduceMul, Nat.reduceSub, Nat.reduceDiv, Nat.reduceMod, Nat.reducePow, Nat.reduceEqDiff, ↓reduceIte, reduceCtorEq, Int.reduceToNat, Int.reduceAdd, Int.reduceSub, Int.reduceMul]
            exact ⟨cellM gw1111 hm, cellM gw117 hm, cellM gw113 hm⟩
          have gw163 := cellM gw113 hm
          have gw167 := cellM gw117 hm
          have gw1611 := cellM gw1111 hm
          have hnb : n < w11.heap.size := (Array.getElem?_eq_some_iff.1 hbw11).1
          have hbw16 := hm.get hbw11 (by simp)
          have hMw16 := hMw11.trans hm (by simp)
          clear hm
          have hwb := hMw11.size
          generalize w11.heap.size = b4 at hnb hwb hcw16 ⊢
          simp (maxSteps := 1000000) only [GS, TT_eq, TTl, Nat.reduceAdd, Nat.reduceMul, Nat.reduceSub, Nat.reduceDiv, Nat.reduceMod, Nat.reducePow, Nat.reduceEqDiff, ↓reduceIte, reduceCtorEq, Int.reduceToNat, Int.reduceAdd, Int.reduceSub, Int.reduceMul]
          refine ht_lin rfl (hold_dops okT (rs := [.cell 2 23]) rfl ?_)
          simp (disch := first | omega | (simp only [SZ] <;> omega) | fail) only [GS, TT_eq, TTl, seval]
          refine ⟨fok120, wUnnum_cps t1 (by unfold maxLen; omega) _ _ (fun v7 w17 hv hm => .inl ⟨_, rfl, cellM gw1611 hm, hold_dops okT (rs := [.cell 2 23]) rfl ?_⟩) (fun hv w17 hm => .inr ⟨_, rfl, fun fs' => hold_ex okT (rs := [.cell 2 23]) rfl ?_⟩)⟩
          · rw [hv] at hX
            have gw173 := cellM gw163 hm
            have gw177 := cellM gw167 hm
            have gw1711 := cellM gw1611 hm
            have hbw17 := hm.get hbw16 (by simp)
            have hMw17 := hMw16.trans hm (by simp)
            have hcw17 := hm.get hcw16 (by simp)
            clear hm hv
            simp (disch := first | omega | (simp only [SZ] <;> omega) | fail) only [GS, TT_eq, TTl, seval]
            refine ⟨fok120, wUnnum_cps t2 (by unfold maxLen; omega) _ _ (fun v11 w18 hv hm => .inl ⟨_, rfl, hold_dops okT (rs := [.cell 2 23]) rfl ?_⟩) (fun hv w18 hm => .inr ⟨_, rfl, fun fs' => hold_ex okT (rs := [.cell 2 23]) rfl ?_⟩)⟩
            · rw [hv] at hX
              have gw183 := cellM gw173 hm
              have gw187 := cellM gw177 hm
              have gw1811 := cellM gw1711 hm
              have hbw18 := hm.get hbw17 (by simp)
              have hMw18 := hMw17.trans hm (by simp)
              have hcw18 := hm.get hcw17 (by simp)
              clear hm hv
              simp (disch := first | omega | (simp only [SZ] <;> omega) | fail) only [GS, TT_eq, TTl, seval, cellOf hcw18, frozenOf hcw18]
              have hcs := st3 hcw18 (x := .int .i64 v3) (y := .int .i64 v7) (z := .int .i64 v11)
              have hbs : ((((w18).setCell ⟨b4, 0, none⟩ (.int .i64 v3)).setCell ⟨b4, 1, none⟩ (.int .i64 v7)).setCell ⟨b4, 2, none⟩ (.int .i64 v11)).heap[n]? = _ := heapSetNe (heapSetNe (heapSetNe hbw18 (by omega)) (by omega)) (by omega)
              have hMs : Mod [] w ((((w18).setCell ⟨b4, 0, none⟩ (.int .i64 v3)).setCell ⟨b4, 1, none⟩ (.int .i64 v7)).setCell ⟨b4, 2, none⟩ (.int .i64 v11)) := ((hMw18.set (.inr hwb) _).set (.inr hwb) _).set (.inr hwb) _
              generalize ((((w18).setCell ⟨b4, 0, none⟩ (.int .i64 v3)).setCell ⟨b4, 1, none⟩ (.int .i64 v7)).setCell ⟨b4, 2, none⟩ (.int .i64 v11)) = w20 at hcs hbs hMs ⊢
              refine ⟨fok73, wMayTxn_cps ((v3 : Int), (v7 : Int), (v11 : Int)) _ _ fun w21 hm2 => .inl ⟨_, rfl, hold_ops okT (rs := [.cell 2 23]) rfl ?_⟩⟩
              have hcs2 := hm2.get hcs (by simp)
              have hbs2 := hm2.get hbs (by simp)
              have hMs2 := hMs.trans hm2 (by simp)
              simp (disch := first | omega | (simp only [SZ] <;> omega) | fail) only [GS, TT_eq, TTl, seval]
              simp only at hX
              refine ⟨fok127, wMust_cps _ _ _ (fun ht => .inl ⟨_, rfl, hold_ops okT (rs := [.cell 2 23]) rfl ?_⟩) (fun ht => .inr ⟨_, rfl, hold_ex okT (rs := [.cell 2 23]) rfl ?_⟩)⟩
              · rw [if_pos ht] at hX
                simp (disch := first | omega | (simp only [SZ] <;> omega) | fail) only [GS, TT_eq, TTl, seval, cellOf hcs2, cellOf hbs2, frozenOf hbs2]
                have hcf := st3 hbs2 (x := .int .i64 v3) (y := .int .i64 v7) (z := .int .i64 v11)
                have hMf : Mod [] w ((((w21).setCell ⟨n, 0, none⟩ (.int .i64 v3)).setCell ⟨n, 1, none⟩ (.int .i64 v7)).setCell ⟨n, 2, none⟩ (.int .i64 v11)) := ((hMs2.set (.inr (by simp only; omega)) _).set (.inr (by simp only; omega)) _).set (.inr (by simp only; omega)) _
                generalize ((((w21).setCell ⟨n, 0, none⟩ (.int .i64 v3)).setCell ⟨n, 1, none⟩ (.int .i64 v7)).setCell ⟨n, 2, none⟩ (.int .i64 v11)) = w22 at hcf hMf ⊢
                simp (disch := first | omega | (simp only [SZ] <;> omega) | fail) only [GS, TT_eq, TTl, seval, loadW]
                refine ⟨_, cellOf hcf, _, cellOf hcf, _, cellOf hcf, ?_⟩
                exact h1 _ _ hX.symm hMf
              · rw [if_neg (by simp [ht])] at hX
                simp (disch := first | omega | (simp only [SZ] <;> omega) | fail) only [GS, TT_eq, TTl, seval]
                exact h0 hX.symm _ hMs2
            · rw [hv] at hX
              simp (disch := first | omega | (simp only [SZ] <;> omega) | fail) only [GS, TT_eq, TTl, seval]
              exact h0 (by rw [← hX]; repeat (first | rfl | split)) _ (hMw17.trans hm (by simp))
          · rw [hv] at hX
            simp (disch := first | omega | (simp only [SZ] <;> omega) | fail) only [GS, TT_eq, TTl, seval]
            exact h0 (by rw [← hX]; repeat (first | rfl | split)) _ (hMw16.trans hm (by simp))
      · rw [hv] at hX
        simp (disch := first | omega | (simp only [SZ] <;> omega) | fail) only [GS, TT_eq, TTl, seval]
        exact h0 (by rw [← hX]; repeat (first | rfl | split)) _ (hMw3.trans hm (by simp))
    · refine ht_eff okT rfl rfl (v := .pointer (some ⟨w3.heap.size, 0, none⟩)) (w' := w3.alloc (.cells #[.int .i64 0, .int .i64 0, .int .i64 0] 23)) (by simp (maxSteps := 1000000) only [GS, TT_eq, TTl, Nat.reduceAdd, Nat.reduceMul, Nat.reduceSub, Nat.reduceDiv, Nat.reduceMod, Nat.reducePow, Nat.reduceEqDiff, ↓reduceIte, reduceCtorEq, Int.reduceToNat, Int.reduceAdd, Int.reduceSub, Int.reduceMul]) ?_ ?_ ht_stop
      all_goals have hm := (Mod.refl [] w3).alloc (.cells #[.int .i64 0, .int .i64 0, .int .i64 0] 23)
      all_goals have hcw19 := heapNew (w := w3) (o := .cells #[.int .i64 0, .int .i64 0, .int .i64 0] 23)
      all_goals generalize w3.alloc (.cells #[.int .i64 0, .int .i64 0, .int .i64 0] 23) = w19 at hm hcw19 ⊢
      · simp (maxSteps := 1000000) only [GS, TT_eq, TTl, Nat.reduceAdd, Nat.reduceMul, Nat.reduceSub, Nat.reduceDiv, Nat.reduceMod, Nat.reducePow, Nat.reduceEqDiff, ↓reduceIte, reduceCtorEq, Int.reduceToNat, Int.reduceAdd, Int.reduceSub, Int.reduceMul]
        exact ⟨cellM gw311 hm, cellM gw37 hm, cellM gw33 hm⟩
      have gw193 := cellM gw33 hm
      have gw197 := cellM gw37 hm
      have gw1911 := cellM gw311 hm
      have hnb : n < w3.heap.size := (Array.getElem?_eq_some_iff.1 hbw3).1
      have hbw19 := hm.get hbw3 (by simp)
      have hMw19 := hMw3.trans hm (by simp)
      clear hm
      have hwb := hMw3.size
      generalize w3.heap.size = b4 at hnb hwb hcw19 ⊢
      simp (maxSteps := 1000000) only [GS, TT_eq, TTl, Nat.reduceAdd, Nat.reduceMul, Nat.reduceSub, Nat.reduceDiv, Nat.reduceMod, Nat.reducePow, Nat.reduceEqDiff, ↓reduceIte, reduceCtorEq, Int.reduceToNat, Int.reduceAdd, Int.reduceSub, Int.reduceMul]
      refine ht_lin rfl (hold_dops okT (rs := [.cell 2 23]) rfl ?_)
      simp (disch := first | omega | (simp only [SZ] <;> omega) | fail) only [GS, TT_eq, TTl, seval]
      refine ⟨fok120, wUnnum_cps t0 (by unfold maxLen; omega) _ _ (fun v3 w20 hv hm => .inl ⟨_, rfl, ⟨cellM gw1911 hm, cellM gw197 hm⟩, hold_dops okT (rs := [.cell 2 23]) rfl ?_⟩) (fun hv w20 hm => .inr ⟨_, rfl, fun fs' => hold_ex okT (rs := [.cell 2 23]) rfl ?_⟩)⟩
      · rw [hv] at hX
        have gw203 := cellM gw193 hm
        have gw207 := cellM gw197 hm
        have gw2011 := cellM gw1911 hm
        have hbw20 := hm.get hbw19 (by simp)
        have hMw20 := hMw19.trans hm (by simp)
        have hcw20 := hm.get hcw19 (by simp)
        clear hm hv
        simp (disch := first | omega | (simp only [SZ] <;> omega) | fail) only [GS, TT_eq, TTl, seval]
        refine ⟨fok120, wUnnum_cps t1 (by unfold maxLen; omega) _ _ (fun v7 w21 hv hm => .inl ⟨_, rfl, cellM gw2011 hm, hold_dops okT (rs := [.cell 2 23]) rfl ?_⟩) (fun hv w21 hm => .inr ⟨_, rfl, fun fs' => hold_ex okT (rs := [.cell 2 23]) rfl ?_⟩)⟩
        · rw [hv] at hX
          have gw213 := cellM gw203 hm
          have gw217 := cellM gw207 hm
          have gw2111 := cellM gw2011 hm
          have hbw21 := hm.get hbw20 (by simp)
          have hMw21 := hMw20.trans hm (by simp)
          have hcw21 := hm.get hcw20 (by simp)
          clear hm hv
          simp (disch := first | omega | (simp only [SZ] <;> omega) | fail) only [GS, TT_eq, TTl, seval]
          refine ⟨fok120, wUnnum_cps t2 (by unfold maxLen; omega) _ _ (fun v11 w22 hv hm => .inl ⟨_, rfl, hold_dops okT (rs := [.cell 2 23]) rfl ?_⟩) (fun hv w22 hm => .inr ⟨_, rfl, fun fs' => hold_ex okT (rs := [.cell 2 23]) rfl ?_⟩)⟩
          · rw [hv] at hX
            have gw223 := cellM gw213 hm
            have gw227 := cellM gw217 hm
            have gw2211 := cellM gw2111 hm
            have hbw22 := hm.get hbw21 (by simp)
            have hMw22 := hMw21.trans hm (by simp)
            have hcw22 := hm.get hcw21 (by simp)
            clear hm hv
            simp (disch := first | omega | (simp only [SZ] <;> omega) | fail) only [GS, TT_eq, TTl, seval, cellOf hcw22, frozenOf hcw22]
            have hcs := st3 hcw22 (x := .int .i64 v3) (y := .int .i64 v7) (z := .int .i64 v11)
            have hbs : ((((w22).setCell ⟨b4, 0, none⟩ (.int .i64 v3)).setCell ⟨b4, 1, none⟩ (.int .i64 v7)).setCell ⟨b4, 2, none⟩ (.int .i64 v11)).heap[n]? = _ := heapSetNe (heapSetNe (heapSetNe hbw22 (by omega)) (by omega)) (by omega)
            have hMs : Mod [] w ((((w22).setCell ⟨b4, 0, none⟩ (.int .i64 v3)).setCell ⟨b4, 1, none⟩ (.int .i64 v7)).setCell ⟨b4, 2, none⟩ (.int .i64 v11)) := ((hMw22.set (.inr hwb) _).set (.inr hwb) _).set (.inr hwb) _
            generalize ((((w22).setCell ⟨b4, 0, none⟩ (.int .i64 v3)).setCell ⟨b4, 1, none⟩ (.int .i64 v7)).setCell ⟨b4, 2, none⟩ (.int .i64 v11)) = w20 at hcs hbs hMs ⊢
            refine ⟨fok73, wMayTxn_cps ((v3 : Int), (v7 : Int), (v11 : Int)) _ _ fun w21 hm2 => .inl ⟨_, rfl, hold_ops okT (rs := [.cell 2 23]) rfl ?_⟩⟩
            have hcs2 := hm2.get hcs (by simp)
            have hbs2 := hm2.get hbs (by simp)
            have hMs2 := hMs.trans hm2 (by simp)
            simp (disch := first | omega | (simp only [SZ] <;> omega) | fail) only [GS, TT_eq, TTl, seval]
            simp only at hX
            refine ⟨fok127, wMust_cps _ _ _ (fun ht => .inl ⟨_, rfl, hold_ops okT (rs := [.cell 2 23]) rfl ?_⟩) (fun ht => .inr ⟨_, rfl, hold_ex okT (rs := [.cell 2 23]) rfl ?_⟩)⟩
            · rw [if_pos ht] at hX
              simp (disch := first | omega | (simp only [SZ] <;> omega) | fail) only [GS, TT_eq, TTl, seval, cellOf hcs2, cellOf hbs2, frozenOf hbs2]
              have hcf := st3 hbs2 (x := .int .i64 v3) (y := .int .i64 v7) (z := .int .i64 v11)
              have hMf : Mod [] w ((((w21).setCell ⟨n, 0, none⟩ (.int .i64 v3)).setCell ⟨n, 1, none⟩ (.int .i64 v7)).setCell ⟨n, 2, none⟩ (.int .i64 v11)) := ((hMs2.set (.inr (by simp only; omega)) _).set (.inr (by simp only; omega)) _).set (.inr (by simp only; omega)) _
              generalize ((((w21).setCell ⟨n, 0, none⟩ (.int .i64 v3)).setCell ⟨n, 1, none⟩ (.int .i64 v7)).setCell ⟨n, 2, none⟩ (.int .i64 v11)) = w22 at hcf hMf ⊢
              simp (disch := first | omega | (simp only [SZ] <;> omega) | fail) only [GS, TT_eq, TTl, seval, loadW]
              refine ⟨_, cellOf hcf, _, cellOf hcf, _, cellOf hcf, ?_⟩
              exact h1 _ _ hX.symm hMf
            · rw [if_neg (by simp [ht])] at hX
              simp (disch := first | omega | (simp only [SZ] <;> omega) | fail) only [GS, TT_eq, TTl, seval]
              exact h0 hX.symm _ hMs2
          · rw [hv] at hX
            simp (disch := first | omega | (simp only [SZ] <;> omega) | fail) only [GS, TT_eq, TTl, seval]
            exact h0 (by rw [← hX]; repeat (first | rfl | split)) _ (hMw21.trans hm (by simp))
        · rw [hv] at hX
          simp (disch := first | omega | (simp only [SZ] <;> omega) | fail) only [GS, TT_eq, TTl, seval]
          exact h0 (by rw [← hX]; repeat (first | rfl | split)) _ (hMw20.trans hm (by simp))
      · rw [hv] at hX
        simp (disch := first | omega | (simp only [SZ] <;> omega) | fail) only [GS, TT_eq, TTl, seval]
        exact h0 (by rw [← hX]; repeat (first | rfl | split)) _ (hMw19.trans hm (by simp))
  · rw [hp] at hX
    simp (disch := first | omega | (simp only [SZ] <;> omega) | fail) only [GS, TT_eq, TTl, seval]
    exact h0 hX.symm _ (hM.trans hM2 (by simp))
theorem lenRest {l : List (List UInt8)} (h : 1 ≤ l.length) : ∃ a r, l = a :: r := by
  cases l with
  | nil => simp at h
  | cons a r => exact ⟨a, r, rfl⟩
theorem len3' {l : List (List UInt8)} (h : l.length = 3) : ∃ a b c, l = [a, b, c] := by
  match l, h with
  | [a, b, c], _ => exact ⟨a, b, c, rfl⟩
theorem made_len (f : List UInt8) (l : List (List UInt8)) : (madeS f l).1.length ≤ 16384 := by
  unfold madeS
  split
  · split
    · rename_i h; exact (check0 h).2.2.1
    · simp
  · simp
theorem txn_len (x : Tx) : (txnS x).1.length ≤ 16384 := by
  unfold txnS
  split
  · exact made_len _ _
  · simp
theorem mbrs_len (c : Int) (l : List Mb) : (mbrsS c l).1.length ≤ 16384 := by
  unfold mbrsS
  split
  · split
    · exact made_len _ _
    · simp
  · simp
theorem row_of {l : List (List UInt8)} (hl : l.length ≤ 9223372036854775807) {a : List UInt8} (h : madeS (114 :: numL l.length) l = (a, 0)) : kindS a = 3 ∧ partsS a = l := by
  obtain ⟨K, tr, e⟩ := rowMade_is hl h
  refine ⟨?_, by rw [tr.parts, e]⟩
  unfold kindS; rw [if_pos tr.ok, tr.1]; rfl
theorem of_row {S : List UInt8} (h : kindS S = 3) : madeS (114 :: numL (partsS S).length) (partsS S) = (S, 0) := by
  rcases opens_plain (kind_chk h (by decide)) with h1 | h1 | h1 | h1 | h1 | h1
  · have := h1.1; omega
  · have := h1.1; omega
  · exact h1.2.2
  · have := h1.1; omega
  · have := h1.1; omega
  · have := h1.1; omega
theorem data_of {s t : List UInt8} (h : dataS s = (t, 0)) : kindS t = 1 ∧ textS t = (s, true) := by
  unfold dataS at h
  split at h
  · simp at h
  · rename_i hs
    simp only [Prod.mk.injEq, and_true] at h
    subst h
    have hn : (numL s.length).length ≤ 9 := numL_len (by omega)
    have tr : Tr (100 :: (numL s.length ++ s)) (100 :: (numL s.length ++ s)) .nil := by
      refine ⟨by simp [encF], .inl ⟨rfl, s, by omega, rfl⟩, trivial, by simp [hgtF], ?_⟩
      simp only [List.length_cons, List.length_append]
      omega
    have hk : kindS (100 :: (numL s.length ++ s)) = 1 := by unfold kindS; rw [if_pos tr.ok]; rfl
    refine ⟨hk, ?_⟩
    unfold textS
    rw [if_pos (.inl hk), List.drop_succ_cons, List.drop_zero]
    have := readText_of s 1024 (by omega) (by omega) []
    rw [List.append_nil] at this
    rw [this]
theorem of_data {t : List UInt8} (h : kindS t = 1) : dataS (textS t).1 = (t, 0) := by
  rcases opens_plain (kind_chk h (by decide)) with h1 | h1 | h1 | h1 | h1 | h1
  · obtain ⟨_, _, s, h2, h3⟩ := h1
    rw [h2]; exact h3
  · have := h1.1; omega
  · have := h1.1; omega
  · have := h1.1; omega
  · have := h1.1; omega
  · have := h1.1; omega
theorem numE_data (v : Nat) (h : v ≤ 2147483647) : dataS (numL v) = (numE (v : Int), 0) := by
  have hn : numS (v : Int) = dataS (numL v) := by unfold numS; rw [if_neg (by omega), Int.toNat_natCast]
  have hl : (numL v).length ≤ 9 := numL_len (by omega)
  have hd : (dataS (numL v)).2 = 0 := by unfold dataS; rw [if_neg (by omega)]
  unfold numE
  rw [hn, ← hd]
theorem numT_of (v : Nat) (h : v ≤ 2147483647) : numT (numE (v : Int)) = some v := by
  obtain ⟨hk, ht⟩ := data_of (numE_data v h)
  have hr := readNum_of v (by omega) []
  rw [List.append_nil] at hr
  unfold numT
  rw [ht, hk]
  simp only
  rw [hr, if_pos ⟨trivial, rfl, rfl, h⟩]
theorem of_numT {S : List UInt8} {v : Nat} (h : numT S = some v) : S = numE (v : Int) ∧ v ≤ 2147483647 := by
  unfold numT at h
  split at h
  · rename_i hc
    obtain ⟨hk, he, hn, hv⟩ := hc
    simp only [Option.some.injEq] at h
    have hd := of_data hk
    rw [h] at hv
    have hx : readNumS (textS S).1 = (v, (textS S).1.length, 0) := by rw [← h, ← hn, ← he]
    obtain ⟨rest, h1, h2, h3⟩ := readNum_is hx
    have : rest = [] := by
      have h4 := congrArg List.length h1
      rw [List.length_append, h2] at h4
      exact List.length_eq_zero_iff.1 (by omega)
    rw [this, List.append_nil] at h1
    rw [h1, numE_data v hv] at hd
    exact ⟨(Prod.mk.inj hd).1.symm, hv⟩
  · simp at h
theorem rowO_of {S : List UInt8} {l : List (List UInt8)} {a b : Nat} (hl : a ≤ l.length ∧ l.length ≤ b) (hb : b ≤ 100) (h : madeS (114 :: numL l.length) l = (S, 0)) : rowO S a b = some l := by
  obtain ⟨h1, h2⟩ := row_of (by omega) h
  unfold rowO
  rw [h1, h2, if_pos ⟨rfl, hl⟩]
theorem of_rowO {S : List UInt8} {l : List (List UInt8)} {a b : Nat} (h : rowO S a b = some l) : madeS (114 :: numL l.length) l = (S, 0) ∧ (∀ p ∈ l, checkS p = 0) ∧ a ≤ l.length ∧ l.length ≤ b := by
  obtain ⟨h1, h2, h3, h4, h5⟩ := rowO_ok h
  rw [h4]
  rw [← h4]
  exact ⟨by rw [h4]; exact of_row h5, h1, h2, h3⟩
theorem made_ne {front : List UInt8} {l : List (List UInt8)} (h : (madeS front l).1 ≠ []) : (madeS front l).2 = 0 := by
  unfold madeS at h ⊢
  split
  · split
    · rfl
    · rename_i h1 h2; rw [if_pos h1, if_neg h2] at h; exact absurd rfl h
  · rename_i h1; rw [if_neg h1] at h; exact absurd rfl h
theorem made_eta {front : List UInt8} {l : List (List UInt8)} (h : (madeS front l).1 ≠ []) : madeS front l = ((madeS front l).1, 0) := by
  rw [← made_ne h]
theorem txB_is {x : Tx} (h : txB x = true) : ∃ a b c : Nat, x = ((a : Int), (b : Int), (c : Int)) ∧ a ≤ 65535 ∧ b ≤ 65535 ∧ c ≤ 65535 := by
  have := of_decide_eq_true h
  obtain ⟨a, b, c⟩ := x
  simp only at this
  exact ⟨a.toNat, b.toNat, c.toNat, by simp only [Prod.mk.injEq]; omega, by omega, by omega, by omega⟩
theorem txn_back {x : Tx} {S : List UInt8} (h : txnS x = (S, 0)) : untxO S = some x ∧ txB x = true := by
  unfold txnS at h
  split at h
  · rename_i hb
    refine ⟨?_, hb⟩
    obtain ⟨a, b, c, rfl, ha, hb', hc⟩ := txB_is hb
    unfold untxO
    rw [rowO_of (l := [numE (a : Int), numE (b : Int), numE (c : Int)]) ⟨by simp, by simp⟩ (by decide) h]
    simp only [List.getD_cons_zero, List.getD_cons_succ]
    rw [numT_of a (by omega), numT_of b (by omega), numT_of c (by omega)]
    simp only
    rw [if_pos hb]
  · simp at h
theorem one_back {s : List UInt8} {m : Mb} (h : oneM s = some m) : madeS (114 :: numL 2) [numE m.1, m.2] = (s, 0) := by
  unfold oneM at h
  split at h
  · rename_i l hl
    obtain ⟨hm, -, h1, h2⟩ := of_rowO hl
    obtain ⟨t0, t1, rfl⟩ := len2 (show l.length = 2 by omega)
    simp only [List.getD_cons_zero, List.getD_cons_succ] at h
    cases hv : numT t0 with
    | none => rw [hv] at h; simp at h
    | some v =>
      rw [hv] at h
      have h : some ((v : Int), t1) = some m := h
      simp only [Option.some.injEq] at h
      subst h
      rw [← (of_numT hv).1]
      exact hm
  · simp at h
theorem of_one {m : Mb} {s : List UInt8} (h0 : 0 ≤ m.1) (h8 : m.1 < 8) (h : madeS (114 :: numL 2) [numE m.1, m.2] = (s, 0)) : oneM s = some m := by
  obtain ⟨k, d⟩ := m
  obtain ⟨n, rfl⟩ : ∃ n : Nat, k = n := ⟨k.toNat, by simp only at h0; omega⟩
  unfold oneM
  rw [rowO_of (l := [numE (n : Int), d]) ⟨by simp, by simp⟩ (by decide) h]
  simp only [List.getD_cons_zero, List.getD_cons_succ]
  rw [numT_of n (by simp only at h8; omega)]
  rfl
theorem unL_back : ∀ (ps : List (List UInt8)) (l : List Mb), unL ps = some l → mbRows l = some ps
  | [], l, h => by
    simp only [unL, Option.some.injEq] at h
    subst h; rfl
  | s :: r, l, h => by
    simp only [unL] at h
    split at h
    · rename_i m hm
      cases hq : unL r with
      | none => rw [hq] at h; simp at h
      | some q =>
        rw [hq] at h
        simp only [Option.map_some, Option.some.injEq] at h
        subst h
        rw [mbRows, one_back hm, unL_back r q hq]
        simp
    · simp at h
theorem of_unL : ∀ (l : List Mb) (ps : List (List UInt8)), (∀ m ∈ l, 0 ≤ m.1 ∧ m.1 < 8) → mbRows l = some ps → unL ps = some l
  | [], ps, _, h => by
    simp only [mbRows, Option.some.injEq] at h
    subst h; rfl
  | m :: l, ps, hm, h => by
    simp only [mbRows] at h
    split at h
    · rename_i h0
      cases hq : mbRows l with
      | none => rw [hq] at h; simp at h
      | some q =>
        rw [hq] at h
        simp only [Option.map_some, Option.some.injEq] at h
        subst h
        have h1 := hm m List.mem_cons_self
        rw [unL, of_one h1.1 h1.2 (s := (madeS (114 :: numL 2) [numE m.1, m.2]).1) (by rw [← h0]), of_unL l q (fun x hx => hm x (by simp [hx])) hq]
        rfl
    · simp at h
theorem unmb_back {c : Int} {S : List UInt8} {l : List Mb} (h : unmbS c S = some l) : mbrsS c l = (S, 0) ∧ mbB c l = true := by
  unfold unmbS at h
  split at h
  · rename_i ps hp
    split at h
    · rename_i l' hl
      split at h
      · rename_i hB
        simp only [Option.some.injEq] at h
        subst h
        refine ⟨?_, hB⟩
        unfold mbrsS
        rw [if_pos hB, unL_back ps l' hl]
        exact (of_rowO hp).1
      · simp at h
    · simp at h
  · simp at h
theorem of_unmb {c : Int} {S : List UInt8} {l : List Mb} (h : mbrsS c l = (S, 0)) : unmbS c S = some l := by
  unfold mbrsS at h
  split at h
  · rename_i hB
    split at h
    · rename_i r hr
      have hB' := hB
      unfold mbB at hB'
      rw [Bool.and_eq_true] at hB'
      have hlen := of_decide_eq_true hB'.2
      have hr' := (mbRows_len l r hr).1
      unfold unmbS
      rw [rowO_of (l := r) ⟨by omega, by omega⟩ (by decide) h]
      simp only
      rw [of_unL l r (fun m hm => by have := mbs_el hB'.1 m hm; omega) hr]
      simp only
      rw [if_pos hB]
    · simp at h
  · simp at h
theorem mbrs_ne {c : Int} {l : List Mb} (h : (mbrsS c l).1 ≠ []) : mbrsS c l = ((mbrsS c l).1, 0) := by
  unfold mbrsS at h ⊢
  split
  · rename_i hB
    rw [if_pos hB] at h
    split
    · rename_i r hr
      rw [hr] at h
      exact made_eta h
    · rename_i hr
      rw [hr] at h
      exact absurd rfl h
  · rename_i hB
    rw [if_neg hB] at h
    exact absurd rfl h
theorem txn_ne {x : Tx} (h : (txnS x).1 ≠ []) : txnS x = ((txnS x).1, 0) := by
  unfold txnS at h ⊢
  split
  · rename_i hB
    rw [if_pos hB] at h
    exact made_eta h
  · rename_i hB
    rw [if_neg hB] at h
    exact absurd rfl h
instance : Inhabited Mb := ⟨(0, [])⟩
def I64 (v : Int) : Prop := -9223372036854775808 ≤ v ∧ v ≤ 9223372036854775807
structure MbsIn (w : World) (sa : Value) (l : List Mb) : Prop where
  rd : Rd w 2 sa l.length (l.flatMap mbC)
  len : l.length ≤ 9223372036854775807
  dig : ∀ x ∈ l, x.2.length ≤ maxLen
  org : ∀ x ∈ l, I64 x.1
theorem byL (a : ByteArray) : (⟨a.data.toList.toArray⟩ : ByteArray) = a := by cases a; rw [Array.toArray_toList]
section
variable {H : Type} {enc : TypeId × Value → H} {w : World} {base : Nat} {spare : Nat → Bool} {held : Bool}
theorem cells2 {cs : List Value} (hl : cs.length = 2) : ∃ k0 k1, cs = [k0, k1] := by
  match cs, hl with
  | [k0, k1], _ => exact ⟨_, _, rfl⟩
theorem cells3 {cs : List Value} (hl : cs.length = 3) : ∃ k0 k1 k2, cs = [k0, k1, k2] := by
  match cs, hl with
  | [k0, k1, k2], _ => exact ⟨_, _, _, rfl⟩
theorem tx_el : ∀ n cs y, DataW.trod enc Tryz.prog w base spare held n 23 cs = some y → ∃ a : Tx, cs = txC a ∧ I64 a.1 ∧ I64 a.2.1 ∧ I64 a.2.2 := by
  intro n cs y h
  obtain ⟨hl, hf⟩ := el_field Tryz.underlying23 h
  rw [show Tryz.prog.cellsOf 23 = 3 from by kernel_rfl] at hl
  obtain ⟨m0, z0, e0⟩ := hf 0 _ rfl
  obtain ⟨m1, z1, e1⟩ := hf 1 _ rfl
  obtain ⟨m2, z2, e2⟩ := hf 2 _ rfl
  obtain ⟨a0, f0, _, g0⟩ := DataW.trod_int Tryz.underlying3 e0
  obtain ⟨a1, f1, _, g1⟩ := DataW.trod_int Tryz.underlying3 e1
  obtain ⟨a2, f2, _, g2⟩ := DataW.trod_int Tryz.underlying3 e2
  have f0 : List.take (Tryz.prog.cellsOf 3) (List.drop 0 cs) = _ := f0
  have f1 : List.take (Tryz.prog.cellsOf 3) (List.drop 1 cs) = _ := f1
  have f2 : List.take (Tryz.prog.cellsOf 3) (List.drop 2 cs) = _ := f2
  have c3 : Tryz.prog.cellsOf 3 = 1 := by kernel_rfl
  rw [c3] at f0 f1 f2
  obtain ⟨k0, k1, k2, rfl⟩ := cells3 hl
  clear e0 e1 e2 hf h c3
  simp only [List.drop_succ_cons, List.drop_zero, List.take_succ_cons, List.take_zero, List.cons.injEq, and_true] at f0 f1 f2
  exact ⟨(a0, a1, a2), by rw [f0, f1, f2]; rfl, wf_i64 g0, wf_i64 g1, wf_i64 g2⟩
theorem mb_el : ∀ n cs y, DataW.trod enc Tryz.prog w base spare held n 84 cs = some y → ∃ a : Mb, cs = mbC a ∧ (I64 a.1 ∧ a.2.length ≤ maxLen) := by
  intro n cs y h
  obtain ⟨hl, hf⟩ := el_field Tryz.underlying84 h
  rw [show Tryz.prog.cellsOf 84 = 2 from by kernel_rfl] at hl
  obtain ⟨m0, z0, e0⟩ := hf 0 _ rfl
  obtain ⟨m1, z1, e1⟩ := hf 1 _ rfl
  obtain ⟨a0, f0, _, g0⟩ := DataW.trod_int Tryz.underlying3 e0
  obtain ⟨a1, f1, _, g1⟩ := DataW.trod_string Tryz.underlying9 e1
  have f0 : List.take (Tryz.prog.cellsOf 3) (List.drop 0 cs) = _ := f0
  have f1 : List.take (Tryz.prog.cellsOf 9) (List.drop 1 cs) = _ := f1
  have c3 : Tryz.prog.cellsOf 3 = 1 := by kernel_rfl
  have c9 : Tryz.prog.cellsOf 9 = 1 := by kernel_rfl
  rw [c3] at f0
  rw [c9] at f1
  obtain ⟨k0, k1, rfl⟩ := cells2 hl
  clear e0 e1 hf h c3 c9
  simp only [List.drop_succ_cons, List.drop_zero, List.take_succ_cons, List.take_zero, List.cons.injEq, and_true] at f0 f1
  refine ⟨(a0, a1.data.toList), ?_, wf_i64 g0, ?_⟩
  · show _ = [Value.int .i64 a0, Value.string ⟨a1.data.toList.toArray⟩]
    rw [byL, f0, f1]
  · show a1.data.toList.length ≤ maxLen
    rw [Array.length_toList]
    exact g1
theorem mbs_in {n : Nat} {cs : List Value} {y : DataW H × List MemPlace} (e3 : DataW.trod enc Tryz.prog w base spare held n 24 cs = some y) : ∃ (sa : Value) (l : List Mb), cs = [sa] ∧ MbsIn w sa l := by
  obtain ⟨aa, al, ac, f3⟩ : ∃ a l c, cs = [Value.slice a l c] := by
    rcases Go.Deep.open_slice Tryz.underlying24 e3 with ⟨h0, _⟩ | ⟨a, len, cap, m, n, D, Pl, h0, _⟩
    · exact ⟨_, _, _, h0⟩
    · exact ⟨_, _, _, h0⟩
  rw [f3] at e3
  obtain ⟨l, hr, hll, hg⟩ := rd_open mbC 2 mbC_len (by decide) (a0 := aa) (len0 := al) (cap0 := ac) Tryz.underlying24 (by kernel_rfl) e3 mb_el
  exact ⟨.slice aa al ac, l, f3, ⟨hr, hll, fun x hx => (hg x hx).2, fun x hx => (hg x hx).1⟩⟩
end
def longB (l : List Mb) : Bool := decide (20 < l.length) || l.any fun x => decide (20000 < x.2.length)
theorem Long12_cps (sa : Value) (l : List Mb) (w : World) (R : Ending → World → Prop) (hx : l.length ≤ 9223372036854775807) (hd : ∀ x ∈ l, x.2.length ≤ maxLen) (ha : Rd w 2 sa l.length (l.flatMap mbC)) (hR : R (.returned (.bool (longB l))) w) :
    Calls Tryz.prog 22 #[sa] w R := by
  unfold longB at hR
  obtain ⟨a, ca, rfl⟩ := ha.slice
  refine calls_go 4000 okT Tryz.func22 rfl (rs := [.tmp 2]) rfl Tryz.ntmps22 (args := [.slice a l.length ca]) ?_
  by_cases h20 : (20 : Int) < ((l.length : Nat) : Int)
  · rw [decide_eq_true (by omega : 20 < l.length), Bool.true_or] at hR
    simp (disch := first | omega | (simp only [SZ] <;> omega) | fail) only [GS, TT_eq, TTl, seval, h20]
    exact hR
  rw [decide_eq_false (by omega : ¬ 20 < l.length), Bool.false_or] at hR
  simp (disch := first | omega | (simp only [SZ] <;> omega) | fail) only [GS, TT_eq, TTl, seval, h20]
  refine hold_loop okT (rs := [.tmp 2]) rfl [3] [2, 7, 8, 9, 10, 11, 12, 13, 14, 15, 16, 17, 18, 19] (fun vs w' => ∃ k : Nat, k ≤ l.length ∧ vs = [.int .i64 k] ∧ w' = w ∧ ∀ x ∈ l.take k, x.2.length ≤ 20000) (fun vs _ => match vs with | [.int _ i] => l.length - i.toNat | _ => 0) (by kernel_rfl) ⟨0, by omega, rfl, rfl, by simp⟩ ?_
  rintro vs w' J ⟨k, hk, rfl, rfl, ht⟩
  by_cases hlt : k < l.length
  · obtain ⟨b1, o1, c1, e1, _, g1⟩ := ha.at (by omega) (by omega)
    rw [Value.slice.injEq] at e1
    obtain ⟨rfl, -, -⟩ := e1
    have hf1 := fun j hj => flat_get mbC 2 mbC_len l k hlt j hj
    have ht1 := List.take_succ_eq_append_getElem hlt
    have hm1 := List.getElem_mem hlt
    generalize l[k] = m1 at hf1 ht1 hm1
    obtain ⟨p1, q1⟩ := m1
    have d0 : w'.cell? ⟨b1, o1 + k * 2, none⟩ = some (.int .i64 p1) := by rw [← g1 (k * 2) _ (hf1 0 (by omega))]
    have d1 : w'.cell? ⟨b1, o1 + k * 2 + 1, none⟩ = some (.string ⟨q1.toArray⟩) := by rw [← g1 (k * 2 + 1) _ (hf1 1 (by omega))]; rfl
    have hq1 := hd _ hm1
    simp only at hq1
    clear hf1 g1
    by_cases hq : (20000 : Int) < ((q1.length : Nat) : Int)
    · rw [List.any_eq_true.2 ⟨_, hm1, decide_eq_true (show 20000 < q1.length by omega)⟩] at hR
      simp (disch := first | omega | (simp only [SZ] <;> omega) | fail) only [GS, TT_eq, TTl, seval, d0, d1, hq]
      exact hR
    · simp (disch := first | omega | (simp only [SZ] <;> omega) | fail) only [GS, TT_eq, TTl, seval, d0, d1, hq]
      refine ⟨⟨k + 1, by omega, rfl, ?_⟩, by omega⟩
      rw [ht1]
      intro x hx
      rcases List.mem_append.1 hx with hx | hx
      · exact ht x hx
      · rw [List.mem_singleton.1 hx]; simp only; omega
  · have e : k = l.length := by omega
    subst e
    rw [List.take_length] at ht
    have hF : (l.any fun x => decide (20000 < x.2.length)) = false := by
      cases h : l.any fun x => decide (20000 < x.2.length)
      · rfl
      · obtain ⟨x, hx, h2⟩ := List.any_eq_true.1 h
        have h3 := ht x hx
        have h4 := of_decide_eq_true h2
        omega
    rw [hF] at hR
    simp (disch := first | omega | (simp only [SZ] <;> omega) | fail) only [GS, TT_eq, TTl, seval]
    exact hR
instance : Inhabited Mb := ⟨(0, [])⟩
structure Ev where
  f : Int
  t : Int
  fe : Int
  te : Int
  no : Int
  body : List UInt8
  tag : List UInt8
deriving DecidableEq
def evC (x : Ev) : List Value := [.int .i64 x.f, .int .i64 x.t, .int .i64 x.fe, .int .i64 x.te, .int .i64 x.no, .string ⟨x.body.toArray⟩, .string ⟨x.tag.toArray⟩]
def evV (x : Ev) : Value := .agg (evC x).toArray
def evN (x : Ev) : List Int := [x.f, x.t, x.fe, x.te, x.no]
def loN : List Int := [0, 0, 1, 1, 1]
def hiN : List Int := [7, 7, 255, 255, 65535]
def numC (p j : Nat) : List Value := [.pointer (some ⟨p, j, none⟩), .int .i64 (loN.getD j 0), .int .i64 (hiN.getD j 0)]
theorem st3n {w : World} {p t : Nat} {fr : Nat × Nat} {a0 a1 a2 x0 x1 x2 : Value} (hz : w.heap[p]? = some (.cells #[a0, a1, a2] t fr)) : (((w.setCell ⟨p, 0, none⟩ (x0)).setCell ⟨p, 1, none⟩ (x1)).setCell ⟨p, 2, none⟩ (x2)).heap[p]? = some (.cells #[x0, x1, x2] t fr) := by
  have h0 : (w.setCell ⟨p, 0, none⟩ x0).heap[p]? = some (.cells #[x0, a1, a2] t fr) := by rw [heapSet hz]; rfl
  revert h0
  generalize w.setCell ⟨p, 0, none⟩ x0 = w0
  intro h0
  have h1 : (w0.setCell ⟨p, 1, none⟩ x1).heap[p]? = some (.cells #[x0, x1, a2] t fr) := by rw [heapSet h0]; rfl
  revert h1
  generalize w0.setCell ⟨p, 1, none⟩ x1 = w1
  intro h1
  have h2 : (w1.setCell ⟨p, 2, none⟩ x2).heap[p]? = some (.cells #[x0, x1, x2] t fr) := by rw [heapSet h1]; rfl
  revert h2
  generalize w1.setCell ⟨p, 2, none⟩ x2 = w2
  intro h2
  exact h2
theorem modSet3n {F : List Nat} {v w : World} {p : Nat} {x0 x1 x2 : Value} (h : Mod F v w) (hn : p ∈ F ∨ v.heap.size ≤ p) : Mod F v (((w.setCell ⟨p, 0, none⟩ (x0)).setCell ⟨p, 1, none⟩ (x1)).setCell ⟨p, 2, none⟩ (x2)) := (((h).set (p := ⟨p, 0, none⟩) hn x0).set (p := ⟨p, 1, none⟩) hn x1).set (p := ⟨p, 2, none⟩) hn x2
theorem box3n {w W : World} {t : Nat} {a0 a1 a2 x0 x1 x2 : Value} (h : ((((w.alloc (.cells #[a0, a1, a2] t)).setCell ⟨w.heap.size, 0, none⟩ (x0)).setCell ⟨w.heap.size, 1, none⟩ (x1)).setCell ⟨w.heap.size, 2, none⟩ (x2)) = W) : W.heap[w.heap.size]? = some (.cells #[x0, x1, x2] t (0, 0)) ∧ Mod [] w W := by
  subst h
  exact ⟨st3n heapNew, modSet3n ((Mod.refl [] w).alloc (.cells #[a0, a1, a2] t)) (.inr (Nat.le_refl _))⟩
theorem enNums_cps (p : Nat) (w : World) (R : Ending → World → Prop)
    (hR : R (.returned (.func (.func 135) #[] #[.pointer (some ⟨w.heap.size, 0, none⟩)])) (w.alloc (.cells #[.pointer (some ⟨p, 0, none⟩)] 182))) :
    Calls Tryz.prog 94 #[.pointer (some ⟨p, 0, none⟩)] w R := by
  refine calls_go 4000 okT Tryz.func94 rfl (rs := [.tmp 2]) rfl Tryz.ntmps94 (args := [.pointer (some ⟨p, 0, none⟩)]) ?_
  simp (disch := first | omega | (simp only [SZ] <;> omega) | fail) only [GS, TT_eq, TTl, seval]
  exact hR
theorem enNum1P_cps (bx l p : Nat) (w : World) (R : Ending → World → Prop) (Inv : Nat → World → Prop) (Out : World → Prop) (Pn : List PanicEntry → World → Prop) (h0 : Inv 0 w)
    (hm : ∀ j w1 w2, Inv j w1 → Mod [] w1 w2 → Inv j w2)
    (hbx : w.heap[bx]? = some (.cells #[.pointer (some ⟨p, 0, none⟩)] 182 (0, 0)))
    (hdone : ∀ w1, Inv 5 w1 → R (.returned (.tuple #[])) w1) (hout : ∀ w1, Out w1 → R (.returned (.tuple #[])) w1) (hpan : ∀ ch w1, Pn ch w1 → R (.panicked ch) w1)
    (hstep : ∀ j (hj : j < 5) w1, Inv j w1 → ∀ s0 c, w.heap.size ≤ s0 → w1.heap[s0]? = some (.cells c 185 (0, 0)) → yieldW Tryz.prog l #[.agg (numC p j).toArray] w1 (fun u w' => w'.heap[s0]? = w1.heap[s0]? ∧ ((u = .bool true ∧ Inv (j + 1) w') ∨ (u = .bool false ∧ Out w'))) Pn) :
    Calls Tryz.prog 135 #[.func (.yield l) #[] #[], .pointer (some ⟨bx, 0, none⟩)] w R := by
  refine calls_go 4000 okT Tryz.func135 rfl (rs := []) rfl Tryz.ntmps135 (args := [.func (.yield l) #[] #[], .pointer (some ⟨bx, 0, none⟩)]) ?_
  simp (disch := first | omega | (simp only [SZ] <;> omega) | fail) only [GS, TT_eq, TTl, seval]
  refine hold_draw okT (rs := []) rfl [0, 1, 3, 7, 0, 16, 48, 112, 0, 256, 768, 1792, 0, 4096, 12288, 28672, 0, 65536, 196608, 458752, 1048575, 2097151, 0] [0, 1, 2, 3, 4, 5, 6, 7, 8, 9, 10, 11, 12, 13, 14, 15, 16, 17, 18, 19, 22, 20, 21] (by kernel_rfl) (by kernel_rfl) ?_
  have hM1 := (Mod.refl [] w).drewN 1
  have cb := fun o => cellOf (o := o) (hM1.get hbx (by simp))
  replace h0 := hm _ _ _ h0 hM1
  have hs1 : (w.drewN 1).heap.size = w.heap.size := rfl
  generalize w.drewN 1 = w1 at *
  simp (disch := first | omega | (simp only [SZ] <;> omega) | fail) only [GS, TT_eq, TTl, seval, cb]
  have hM2 := (Mod.refl [] w1).alloc (.cells #[.pointer (some ⟨p, 0, none⟩), .int .i64 0, .int .i64 7, .pointer (some ⟨p, 1, none⟩), .int .i64 0, .int .i64 7, .pointer (some ⟨p, 2, none⟩), .int .i64 1, .int .i64 255, .pointer (some ⟨p, 3, none⟩), .int .i64 1, .int .i64 255, .pointer (some ⟨p, 4, none⟩), .int .i64 1, .int .i64 65535] 185)
  have hL := heapNew (w := w1) (o := .cells #[.pointer (some ⟨p, 0, none⟩), .int .i64 0, .int .i64 7, .pointer (some ⟨p, 1, none⟩), .int .i64 0, .int .i64 7, .pointer (some ⟨p, 2, none⟩), .int .i64 1, .int .i64 255, .pointer (some ⟨p, 3, none⟩), .int .i64 1, .int .i64 255, .pointer (some ⟨p, 4, none⟩), .int .i64 1, .int .i64 65535] 185)
  replace h0 := hm _ _ _ h0 hM2
  generalize w1.alloc (.cells #[.pointer (some ⟨p, 0, none⟩), .int .i64 0, .int .i64 7, .pointer (some ⟨p, 1, none⟩), .int .i64 0, .int .i64 7, .pointer (some ⟨p, 2, none⟩), .int .i64 1, .int .i64 255, .pointer (some ⟨p, 3, none⟩), .int .i64 1, .int .i64 255, .pointer (some ⟨p, 4, none⟩), .int .i64 1, .int .i64 65535] 185) = w2 at *
  rw [hs1] at hL ⊢
  generalize hs0 : w.heap.size = s0 at hL ⊢
  refine hold_loop okT (rs := []) rfl [27] [4, 28, 29, 30, 31, 32, 33, 34, 35] (fun vs w' => ∃ k : Nat, k ≤ 5 ∧ vs = [.int .i64 k] ∧ Inv k w' ∧ w'.heap[s0]? = some (.cells #[.pointer (some ⟨p, 0, none⟩), .int .i64 0, .int .i64 7, .pointer (some ⟨p, 1, none⟩), .int .i64 0, .int .i64 7, .pointer (some ⟨p, 2, none⟩), .int .i64 1, .int .i64 255, .pointer (some ⟨p, 3, none⟩), .int .i64 1, .int .i64 255, .pointer (some ⟨p, 4, none⟩), .int .i64 1, .int .i64 65535] 185 (0, 0))) (fun vs _ => match vs with | [.int _ i] => 5 - i.toNat | _ => 0) (by kernel_rfl) ⟨0, by omega, rfl, h0, hL⟩ ?_
  rintro vs w3 J ⟨k, hk, rfl, hI, hL3⟩
  by_cases hlt : k < 5
  rotate_left
  · have e : k = 5 := by omega
    subst e
    simp (disch := first | omega | (simp only [SZ] <;> omega) | fail) only [GS, TT_eq, TTl, seval]
    exact hdone _ hI
  have hk5 : k = 0 ∨ k = 1 ∨ k = 2 ∨ k = 3 ∨ k = 4 := by omega
  have cs := fun o => cellOf (o := o) hL3
  have d0 : w3.cell? ⟨s0, k * 3, none⟩ = some (.pointer (some ⟨p, k, none⟩)) := by rcases hk5 with rfl | rfl | rfl | rfl | rfl <;> exact cs _
  have d1 : w3.cell? ⟨s0, k * 3 + 1, none⟩ = some (.int .i64 (loN.getD k 0)) := by rcases hk5 with rfl | rfl | rfl | rfl | rfl <;> exact cs _
  have d2 : w3.cell? ⟨s0, k * 3 + 2, none⟩ = some (.int .i64 (hiN.getD k 0)) := by rcases hk5 with rfl | rfl | rfl | rfl | rfl <;> exact cs _
  have hst := fun w1 c h (hl : w1.heap[s0]? = some (.cells c 185 (0, 0))) => hstep k hlt w1 h s0 c (by omega) hl
  unfold numC at hst
  generalize loN.getD k 0 = lo at *
  generalize hiN.getD k 0 = hi at *
  clear cs hk5
  simp (disch := first | omega | (simp only [SZ] <;> omega) | fail) only [GS, TT_eq, TTl, seval, d0, d1, d2]
  generalize hW : (((w3.alloc (.cells #[.pointer none, .int .i64 0, .int .i64 0] 185)).setCell ⟨w3.heap.size, 0, none⟩ (.pointer (some ⟨p, k, none⟩))).setCell ⟨w3.heap.size, 1, none⟩ (.int .i64 lo)).setCell ⟨w3.heap.size, 2, none⟩ (.int .i64 hi) = w4
  obtain ⟨-, hM4⟩ := box3n hW
  clear hW
  have hL4 := hM4.get hL3 (by simp)
  refine yieldW_mono (hst _ _ (hm _ _ _ hI hM4) hL4) ?_ ?_
  rotate_left
  · intro ch w5 h
    refine hold_ex okT (rs := []) rfl ?_
    simp (disch := first | omega | (simp only [SZ] <;> omega) | fail) only [GS, TT_eq, TTl, seval]
    exact hpan _ _ h
  rintro u w5 ⟨he, ⟨rfl, hI5⟩ | ⟨rfl, hO⟩⟩
  · refine hold_ops okT (rs := []) rfl ?_
    simp (disch := first | omega | (simp only [SZ] <;> omega) | fail) only [GS, TT_eq, TTl, seval]
    exact ⟨⟨k + 1, by omega, rfl, hI5, he.trans hL4⟩, by omega⟩
  · refine hold_ops okT (rs := []) rfl ?_
    simp (disch := first | omega | (simp only [SZ] <;> omega) | fail) only [GS, TT_eq, TTl, seval]
    exact hout _ hO
theorem enNum1_cps (bx l p : Nat) (w : World) (R : Ending → World → Prop) (Inv : Nat → World → Prop) (Out : World → Prop) (h0 : Inv 0 w)
    (hm : ∀ j w1 w2, Inv j w1 → Mod [] w1 w2 → Inv j w2)
    (hbx : w.heap[bx]? = some (.cells #[.pointer (some ⟨p, 0, none⟩)] 182 (0, 0)))
    (hdone : ∀ w1, Inv 5 w1 → R (.returned (.tuple #[])) w1) (hout : ∀ w1, Out w1 → R (.returned (.tuple #[])) w1)
    (hstep : ∀ j (hj : j < 5) w1, Inv j w1 → ∀ s0 c, w.heap.size ≤ s0 → w1.heap[s0]? = some (.cells c 185 (0, 0)) → yieldW Tryz.prog l #[.agg (numC p j).toArray] w1 (fun u w' => w'.heap[s0]? = w1.heap[s0]? ∧ ((u = .bool true ∧ Inv (j + 1) w') ∨ (u = .bool false ∧ Out w'))) (fun _ _ => False)) :
    Calls Tryz.prog 135 #[.func (.yield l) #[] #[], .pointer (some ⟨bx, 0, none⟩)] w R :=
  enNum1P_cps bx l p w R Inv Out (fun _ _ => False) h0 hm hbx hdone hout (fun _ _ h => h.elim) hstep
end Go.Proofs.YtdflchgfhmjhbaaGreatDoor
