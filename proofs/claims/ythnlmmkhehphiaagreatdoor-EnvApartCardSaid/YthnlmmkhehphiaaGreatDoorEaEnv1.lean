/-
  env: the range over an envelope's numbers (walk).
-/
import Derived.Test.YthnlmmkhehphiaaGreatDoorEaB5
import Derived.Test.YthnlmmkhehphiaaGreatDoorEaPar1
set_option linter.unusedSimpArgs false
set_option linter.unusedVariables false
set_option maxRecDepth 20000
namespace Go.Proofs.YthnlmmkhehphiaaGreatDoor
open Go Go.Wk Go.RowKit
attribute [local irreducible] go Hold
open Go.Lib
/-- An envelope. -/
structure Ev where
  f : Int
  t : Int
  fe : Int
  te : Int
  no : Int
  body : List UInt8
  tag : List UInt8
deriving DecidableEq
def evC (x : Ev) : List Value := [.int .i64 x.f, .int .i64 x.t, .int .i64 x.fe, .int .i64 x.te, .int .i64 x.no, .string ⟨x.body.toArray⟩, .string ⟨x.tag.toArray⟩]
def evV (x : Ev) : Value := .agg (evC x).toArray
def evN (x : Ev) : List Int := [x.f, x.t, x.fe, x.te, x.no]
def loN : List Int := [0, 0, 1, 1, 1]
def hiN : List Int := [7, 7, 255, 255, 65535]
def numC (p j : Nat) : List Value := [.pointer (some ⟨p, j, none⟩), .int .i64 (loN.getD j 0), .int .i64 (hiN.getD j 0)]
theorem st3n {w : World} {p t : Nat} {fr : Nat × Nat} {a0 a1 a2 x0 x1 x2 : Value} (hz : w.heap[p]? = some (.cells #[a0, a1, a2] t fr)) : (((w.setCell ⟨p, 0, none⟩ (x0)).setCell ⟨p, 1, none⟩ (x1)).setCell ⟨p, 2, none⟩ (x2)).heap[p]? = some (.cells #[x0, x1, x2] t fr) := by
  have h0 : (w.setCell ⟨p, 0, none⟩ x0).heap[p]? = some (.cells #[x0, a1, a2] t fr) := by rw [heapSet hz]; rfl
  revert h0
  generalize w.setCell ⟨p, 0, none⟩ x0 = w0
  intro h0
  have h1 : (w0.setCell ⟨p, 1, none⟩ x1).heap[p]? = some (.cells #[x0, x1, a2] t fr) := by rw [heapSet h0]; rfl
  revert h1
  generalize w0.setCell ⟨p, 1, none⟩ x1 = w1
  intro h1
  have h2 : (w1.setCell ⟨p, 2, none⟩ x2).heap[p]? = some (.cells #[x0, x1, x2] t fr) := by rw [heapSet h1]; rfl
  revert h2
  generalize w1.setCell ⟨p, 2, none⟩ x2 = w2
  intro h2
  exact h2
theorem modSet3n {F : List Nat} {v w : World} {p : Nat} {x0 x1 x2 : Value} (h : Mod F v w) (hn : p ∈ F ∨ v.heap.size ≤ p) : Mod F v (((w.setCell ⟨p, 0, none⟩ (x0)).setCell ⟨p, 1, none⟩ (x1)).setCell ⟨p, 2, none⟩ (x2)) := (((h).set (p := ⟨p, 0, none⟩) hn x0).set (p := ⟨p, 1, none⟩) hn x1).set (p := ⟨p, 2, none⟩) hn x2
theorem box3n {w W : World} {t : Nat} {a0 a1 a2 x0 x1 x2 : Value} (h : ((((w.alloc (.cells #[a0, a1, a2] t)).setCell ⟨w.heap.size, 0, none⟩ (x0)).setCell ⟨w.heap.size, 1, none⟩ (x1)).setCell ⟨w.heap.size, 2, none⟩ (x2)) = W) : W.heap[w.heap.size]? = some (.cells #[x0, x1, x2] t (0, 0)) ∧ Mod [] w W := by
  subst h
  exact ⟨st3n heapNew, modSet3n ((Mod.refl [] w).alloc (.cells #[a0, a1, a2] t)) (.inr (Nat.le_refl _))⟩
theorem enNums_cps (p : Nat) (w : World) (R : Ending → World → Prop)
    (hR : R (.returned (.func (.func 105) #[] #[.pointer (some ⟨w.heap.size, 0, none⟩)])) (w.alloc (.cells #[.pointer (some ⟨p, 0, none⟩)] 94))) :
    Calls Tryz.prog 57 #[.pointer (some ⟨p, 0, none⟩)] w R := by
  refine calls_go 4000 okT Tryz.func57 rfl (rs := [.tmp 2]) rfl Tryz.ntmps57 (args := [.pointer (some ⟨p, 0, none⟩)]) ?_
  simp (maxSteps := 1000000) (disch := first | omega | (simp only [sizeAlloc, sizeDrew, sizeSet, sizePut] <;> omega) | fail) only [GS, TT_eq, TTl, Nat.reduceAdd, Nat.reduceMul, Nat.reduceSub, Nat.reduceDiv, Nat.reduceMod, Nat.reducePow, Nat.reduceEqDiff, ↓reduceIte, reduceCtorEq, Int.reduceToNat, Int.reduceAdd, Int.reduceSub, Int.reduceMul]
  exact hR
set_option maxRecDepth 20000 in
set_option maxHeartbeats 8000000 in
theorem enNum1P_cps (bx l p : Nat) (w : World) (R : Ending → World → Prop) (Inv : Nat → World → Prop) (Out : World → Prop) (Pn : List PanicEntry → World → Prop) (h0 : Inv 0 w)
    (hm : ∀ j w1 w2, Inv j w1 → Mod [] w1 w2 → Inv j w2)
    (hbx : w.heap[bx]? = some (.cells #[.pointer (some ⟨p, 0, none⟩)] 94 (0, 0)))
    (hdone : ∀ w1, Inv 5 w1 → R (.returned (.tuple #[])) w1) (hout : ∀ w1, Out w1 → R (.returned (.tuple #[])) w1) (hpan : ∀ ch w1, Pn ch w1 → R (.panicked ch) w1)
    (hstep : ∀ j (hj : j < 5) w1, Inv j w1 → ∀ s0 c, w.heap.size ≤ s0 → w1.heap[s0]? = some (.cells c 97 (0, 0)) → yieldW Tryz.prog l #[.agg (numC p j).toArray] w1 (fun u w' => w'.heap[s0]? = w1.heap[s0]? ∧ ((u = .bool true ∧ Inv (j + 1) w') ∨ (u = .bool false ∧ Out w'))) Pn) :
    Calls Tryz.prog 105 #[.func (.yield l) #[] #[], .pointer (some ⟨bx, 0, none⟩)] w R := by
  refine calls_go 4000 okT Tryz.func105 rfl (rs := []) rfl Tryz.ntmps105 (args := [.func (.yield l) #[] #[], .pointer (some ⟨bx, 0, none⟩)]) ?_
  simp (maxSteps := 1000000) (disch := first | omega | (simp only [sizeAlloc, sizeDrew, sizeSet, sizePut] <;> omega) | fail) only [GS, TT_eq, TTl, Nat.reduceAdd, Nat.reduceMul, Nat.reduceSub, Nat.reduceDiv, Nat.reduceMod, Nat.reducePow, Nat.reduceEqDiff, ↓reduceIte, reduceCtorEq, Int.reduceToNat, Int.reduceAdd, Int.reduceSub, Int.reduceMul]
  refine hold_draw okT (rs := []) rfl [0, 1, 3, 7, 0, 16, 48, 112, 0, 256, 768, 1792, 0, 4096, 12288, 28672, 0, 65536, 196608, 458752, 1048575, 2097151, 0] [0, 1, 2, 3, 4, 5, 6, 7, 8, 9, 10, 11, 12, 13, 14, 15, 16, 17, 18, 19, 22, 20, 21] (by kernel_rfl) (by kernel_rfl) ?_
  have hM1 := (Mod.refl [] w).drewN 1
  have cb := fun o => cellOf (o := o) (hM1.get hbx (by simp))
  replace h0 := hm _ _ _ h0 hM1
  have hs1 : (w.drewN 1).heap.size = w.heap.size := rfl
  generalize w.drewN 1 = w1 at *
  simp (maxSteps := 1000000) (disch := first | omega | (simp only [sizeAlloc, sizeDrew, sizeSet, sizePut] <;> omega) | fail) only [GS, TT_eq, TTl, Nat.reduceAdd, Nat.reduceMul, Nat.reduceSub, Nat.reduceDiv, Nat.reduceMod, Nat.reducePow, Nat.reduceEqDiff, ↓reduceIte, reduceCtorEq, Int.reduceToNat, Int.reduceAdd, Int.reduceSub, Int.reduceMul, cb]
  have hM2 := (Mod.refl [] w1).alloc (.cells #[.pointer (some ⟨p, 0, none⟩), .int .i64 0, .int .i64 7, .pointer (some ⟨p, 1, none⟩), .int .i64 0, .int .i64 7, .pointer (some ⟨p, 2, none⟩), .int .i64 1, .int .i64 255, .pointer (some ⟨p, 3, none⟩), .int .i64 1, .int .i64 255, .pointer (some ⟨p, 4, none⟩), .int .i64 1, .int .i64 65535] 97)
  have hL := heapNew (w := w1) (o := .cells #[.pointer (some ⟨p, 0, none⟩), .int .i64 0, .int .i64 7, .pointer (some ⟨p, 1, none⟩), .int .i64 0, .int .i64 7, .pointer (some ⟨p, 2, none⟩), .int .i64 1, .int .i64 255, .pointer (some ⟨p, 3, none⟩), .int .i64 1, .int .i64 255, .pointer (some ⟨p, 4, none⟩), .int .i64 1, .int .i64 65535] 97)
  replace h0 := hm _ _ _ h0 hM2
  generalize w1.alloc (.cells #[.pointer (some ⟨p, 0, none⟩), .int .i64 0, .int .i64 7, .pointer (some ⟨p, 1, none⟩), .int .i64 0, .int .i64 7, .pointer (some ⟨p, 2, none⟩), .int .i64 1, .int .i64 255, .pointer (some ⟨p, 3, none⟩), .int .i64 1, .int .i64 255, .pointer (some ⟨p, 4, none⟩), .int .i64 1, .int .i64 65535] 97) = w2 at *
  rw [hs1] at hL ⊢
  generalize hs0 : w.heap.size = s0 at hL ⊢
  refine hold_loop okT (rs := []) rfl [27] [4, 28, 29, 30, 31, 32, 33, 34, 35] (fun vs w' => ∃ k : Nat, k ≤ 5 ∧ vs = [.int .i64 k] ∧ Inv k w' ∧ w'.heap[s0]? = some (.cells #[.pointer (some ⟨p, 0, none⟩), .int .i64 0, .int .i64 7, .pointer (some ⟨p, 1, none⟩), .int .i64 0, .int .i64 7, .pointer (some ⟨p, 2, none⟩), .int .i64 1, .int .i64 255, .pointer (some ⟨p, 3, none⟩), .int .i64 1, .int .i64 255, .pointer (some ⟨p, 4, none⟩), .int .i64 1, .int .i64 65535] 97 (0, 0))) (fun vs _ => match vs with | [.int _ i] => 5 - i.toNat | _ => 0) (by kernel_rfl) ⟨0, by omega, rfl, h0, hL⟩ ?_
  rintro vs w3 J ⟨k, hk, rfl, hI, hL3⟩
  by_cases hlt : k < 5
  rotate_left
  · have e : k = 5 := by omega
    subst e
    simp (maxSteps := 1000000) (disch := first | omega | (simp only [sizeAlloc, sizeDrew, sizeSet, sizePut] <;> omega) | fail) only [GS, TT_eq, TTl, Nat.reduceAdd, Nat.reduceMul, Nat.reduceSub, Nat.reduceDiv, Nat.reduceMod, Nat.reducePow, Nat.reduceEqDiff, ↓reduceIte, reduceCtorEq, Int.reduceToNat, Int.reduceAdd, Int.reduceSub, Int.reduceMul]
    exact hdone _ hI
  have hk5 : k = 0 ∨ k = 1 ∨ k = 2 ∨ k = 3 ∨ k = 4 := by omega
  have cs := fun o => cellOf (o := o) hL3
  have d0 : w3.cell? ⟨s0, k * 3, none⟩ = some (.pointer (some ⟨p, k, none⟩)) := by rcases hk5 with rfl | rfl | rfl | rfl | rfl <;> exact cs _
  have d1 : w3.cell? ⟨s0, k * 3 + 1, none⟩ = some (.int .i64 (loN.getD k 0)) := by rcases hk5 with rfl | rfl | rfl | rfl | rfl <;> exact cs _
  have d2 : w3.cell? ⟨s0, k * 3 + 2, none⟩ = some (.int .i64 (hiN.getD k 0)) := by rcases hk5 with rfl | rfl | rfl | rfl | rfl <;> exact cs _
  have hst := fun w1 c h (hl : w1.heap[s0]? = some (.cells c 97 (0, 0))) => hstep k hlt w1 h s0 c (by omega) hl
  unfold numC at hst
  generalize loN.getD k 0 = lo at *
  generalize hiN.getD k 0 = hi at *
  clear cs hk5
  simp (maxSteps := 1000000) (disch := first | omega | (simp only [sizeAlloc, sizeDrew, sizeSet, sizePut] <;> omega) | fail) only [GS, TT_eq, TTl, Nat.reduceAdd, Nat.reduceMul, Nat.reduceSub, Nat.reduceDiv, Nat.reduceMod, Nat.reducePow, Nat.reduceEqDiff, ↓reduceIte, reduceCtorEq, Int.reduceToNat, Int.reduceAdd, Int.reduceSub, Int.reduceMul, d0, d1, d2]
  generalize hW : (((w3.alloc (.cells #[.pointer none, .int .i64 0, .int .i64 0] 97)).setCell ⟨w3.heap.size, 0, none⟩ (.pointer (some ⟨p, k, none⟩))).setCell ⟨w3.heap.size, 1, none⟩ (.int .i64 lo)).setCell ⟨w3.heap.size, 2, none⟩ (.int .i64 hi) = w4
  obtain ⟨-, hM4⟩ := box3n hW
  clear hW
  have hL4 := hM4.get hL3 (by simp)
  refine yieldW_mono (hst _ _ (hm _ _ _ hI hM4) hL4) ?_ ?_
  rotate_left
  · intro ch w5 h
    refine hold_ex okT (rs := []) rfl ?_
    simp (maxSteps := 1000000) (disch := first | omega | (simp only [sizeAlloc, sizeDrew, sizeSet, sizePut] <;> omega) | fail) only [GS, TT_eq, TTl, Nat.reduceAdd, Nat.reduceMul, Nat.reduceSub, Nat.reduceDiv, Nat.reduceMod, Nat.reducePow, Nat.reduceEqDiff, ↓reduceIte, reduceCtorEq, Int.reduceToNat, Int.reduceAdd, Int.reduceSub, Int.reduceMul]
    exact hpan _ _ h
  rintro u w5 ⟨he, ⟨rfl, hI5⟩ | ⟨rfl, hO⟩⟩
  · refine hold_ops okT (rs := []) rfl ?_
    simp (maxSteps := 1000000) (disch := first | omega | (simp only [sizeAlloc, sizeDrew, sizeSet, sizePut] <;> omega) | fail) only [GS, TT_eq, TTl, Nat.reduceAdd, Nat.reduceMul, Nat.reduceSub, Nat.reduceDiv, Nat.reduceMod, Nat.reducePow, Nat.reduceEqDiff, ↓reduceIte, reduceCtorEq, Int.reduceToNat, Int.reduceAdd, Int.reduceSub, Int.reduceMul]
    exact ⟨⟨k + 1, by omega, rfl, hI5, he.trans hL4⟩, by omega⟩
  · refine hold_ops okT (rs := []) rfl ?_
    simp (maxSteps := 1000000) (disch := first | omega | (simp only [sizeAlloc, sizeDrew, sizeSet, sizePut] <;> omega) | fail) only [GS, TT_eq, TTl, Nat.reduceAdd, Nat.reduceMul, Nat.reduceSub, Nat.reduceDiv, Nat.reduceMod, Nat.reducePow, Nat.reduceEqDiff, ↓reduceIte, reduceCtorEq, Int.reduceToNat, Int.reduceAdd, Int.reduceSub, Int.reduceMul]
    exact hout _ hO
theorem enNum1_cps (bx l p : Nat) (w : World) (R : Ending → World → Prop) (Inv : Nat → World → Prop) (Out : World → Prop) (h0 : Inv 0 w)
    (hm : ∀ j w1 w2, Inv j w1 → Mod [] w1 w2 → Inv j w2)
    (hbx : w.heap[bx]? = some (.cells #[.pointer (some ⟨p, 0, none⟩)] 94 (0, 0)))
    (hdone : ∀ w1, Inv 5 w1 → R (.returned (.tuple #[])) w1) (hout : ∀ w1, Out w1 → R (.returned (.tuple #[])) w1)
    (hstep : ∀ j (hj : j < 5) w1, Inv j w1 → ∀ s0 c, w.heap.size ≤ s0 → w1.heap[s0]? = some (.cells c 97 (0, 0)) → yieldW Tryz.prog l #[.agg (numC p j).toArray] w1 (fun u w' => w'.heap[s0]? = w1.heap[s0]? ∧ ((u = .bool true ∧ Inv (j + 1) w') ∨ (u = .bool false ∧ Out w'))) (fun _ _ => False)) :
    Calls Tryz.prog 105 #[.func (.yield l) #[] #[], .pointer (some ⟨bx, 0, none⟩)] w R :=
  enNum1P_cps bx l p w R Inv Out (fun _ _ => False) h0 hm hbx hdone hout (fun _ _ h => h.elim) hstep
end Go.Proofs.YthnlmmkhehphiaaGreatDoor
