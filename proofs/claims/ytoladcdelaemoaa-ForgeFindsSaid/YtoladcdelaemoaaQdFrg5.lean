/-
  forge.all, Terms, Run (walks).
-/
import Derived.Test.YtoladcdelaemoaaQdFrg4
set_option linter.unusedSimpArgs false
set_option linter.unusedVariables false
set_option maxRecDepth 20000
namespace Go.Proofs.Ytoladcdelaemoaa
open Go Go.Wk Go.RowKit
attribute [local irreducible] go Hold
open Go.Lib
/-- What all the steps come to, in memory. -/
def AllR (R : Ending → World → Prop) (w : World) (p : List (List UInt8) × Nat × Int) : Prop :=
  ∀ lv w', w'.ownsRow w.heap.size 9 1 lv p.1.length (p.1.map strV) → Mod [] w w' → R (.returned (.tuple #[lv, .int .i64 p.2.1, .int .i64 p.2.2])) w'
set_option maxRecDepth 20000 in
set_option maxHeartbeats 8000000 in
theorem all_cps (sv ta : Value) (seen : List (List UInt8)) (xs : List Stp) (w : World) (R : Ending → World → Prop) (rs : Rd w 1 sv seen.length (seen.map strV)) (hs : ∀ s ∈ seen, s.length ≤ maxLen) (ls : seen.length ≤ 9223372036854775807) (hx : RdS w ta xs) (hxl : xs.length ≤ 32768)
    (hR : AllR R w (allT seen xs)) : Calls Try.prog 41 #[sv, ta] w R := by
  obtain ⟨sa, sc, rfl⟩ := rs.slice
  obtain ⟨xa, xc, rfl⟩ := hx.rd.slice
  unfold AllR allT at hR
  refine calls_go 4000 okT Try.func41 rfl (rs := [.cell 4 22, .cell 5 3, .cell 6 31]) rfl Try.ntmps41 (args := [.slice sa seen.length sc, .slice xa xs.length xc]) ?_
  by_cases h0 : xs.length = 0
  · rw [if_pos h0] at hR
    simp (maxSteps := 1000000) (disch := first | omega | (simp only [sizeAlloc, sizeDrew, sizeSet, sizePut] <;> omega) | fail) only [GS, TT_eq, TTl, Nat.reduceAdd, Nat.reduceMul, Nat.reduceSub, Nat.reduceDiv, Nat.reduceMod, Nat.reducePow, Nat.reduceEqDiff, ↓reduceIte, reduceCtorEq, Int.reduceToNat, Int.reduceAdd, Int.reduceSub, Int.reduceMul, leaveW, loadW]
    refine ⟨_, rfl, _, rfl, _, rfl, hR _ _ (World.ownsRow_nil _ _ _ _) ((((((Mod.refl [] w).alloc _).alloc _).alloc _).set (.inr (Nat.le_refl _)) _).set (.inr (Nat.le_succ _)) _ |>.set (.inr (Nat.le_add_right _ 2)) _)⟩
  · rw [if_neg h0] at hR
    simp (maxSteps := 1000000) (disch := first | omega | (simp only [sizeAlloc, sizeDrew, sizeSet, sizePut] <;> omega) | fail) only [GS, TT_eq, TTl, Nat.reduceAdd, Nat.reduceMul, Nat.reduceSub, Nat.reduceDiv, Nat.reduceMod, Nat.reducePow, Nat.reduceEqDiff, ↓reduceIte, reduceCtorEq, Int.reduceToNat, Int.reduceAdd, Int.reduceSub, Int.reduceMul]
    refine hold_defer rfl rfl (hold_ops okT (rs := [.cell 4 22, .cell 5 3, .cell 6 31]) rfl ?_)
    simp (maxSteps := 1000000) (disch := first | omega | (simp only [sizeAlloc, sizeDrew, sizeSet, sizePut] <;> omega) | fail) only [GS, TT_eq, TTl, Nat.reduceAdd, Nat.reduceMul, Nat.reduceSub, Nat.reduceDiv, Nat.reduceMod, Nat.reducePow, Nat.reduceEqDiff, ↓reduceIte, reduceCtorEq, Int.reduceToNat, Int.reduceAdd, Int.reduceSub, Int.reduceMul]
    have hA : ((((w.alloc (.cells #[.slice none 0 0] 22)).alloc (.cells #[.int .i64 0] 3)).alloc (.cells #[.int .i64 0] 31)).alloc (.cells #[.slice sa seen.length sc, .slice none 0 0] 107)).heap[w.heap.size]? = some (.cells #[.slice none 0 0] 22 (0, 0)) := by (simp only [heapA, sizeAlloc]; repeat (first | rfl | rw [if_neg (by omega)] | rw [if_pos (by omega)]))
    have hB : ((((w.alloc (.cells #[.slice none 0 0] 22)).alloc (.cells #[.int .i64 0] 3)).alloc (.cells #[.int .i64 0] 31)).alloc (.cells #[.slice sa seen.length sc, .slice none 0 0] 107)).heap[w.heap.size + 1]? = some (.cells #[.int .i64 0] 3 (0, 0)) := by (simp only [heapA, sizeAlloc]; repeat (first | rfl | rw [if_neg (by omega)] | rw [if_pos (by omega)]))
    have hC : ((((w.alloc (.cells #[.slice none 0 0] 22)).alloc (.cells #[.int .i64 0] 3)).alloc (.cells #[.int .i64 0] 31)).alloc (.cells #[.slice sa seen.length sc, .slice none 0 0] 107)).heap[w.heap.size + 2]? = some (.cells #[.int .i64 0] 31 (0, 0)) := by (simp only [heapA, sizeAlloc]; repeat (first | rfl | rw [if_neg (by omega)] | rw [if_pos (by omega)]))
    have hP : ((((w.alloc (.cells #[.slice none 0 0] 22)).alloc (.cells #[.int .i64 0] 3)).alloc (.cells #[.int .i64 0] 31)).alloc (.cells #[.slice sa seen.length sc, .slice none 0 0] 107)).heap[w.heap.size + 3]? = some (.cells #[.slice sa seen.length sc, .slice none 0 0] 107 (0, 0)) := by (simp only [heapA, sizeAlloc]; repeat (first | rfl | rw [if_neg (by omega)] | rw [if_pos (by omega)]))
    have hM0 : Mod [] w ((((w.alloc (.cells #[.slice none 0 0] 22)).alloc (.cells #[.int .i64 0] 3)).alloc (.cells #[.int .i64 0] 31)).alloc (.cells #[.slice sa seen.length sc, .slice none 0 0] 107)) := ((((Mod.refl [] w).alloc _).alloc _).alloc _).alloc _
    have hz0 : ((((w.alloc (.cells #[.slice none 0 0] 22)).alloc (.cells #[.int .i64 0] 3)).alloc (.cells #[.int .i64 0] 31)).alloc (.cells #[.slice sa seen.length sc, .slice none 0 0] 107)).heap.size = w.heap.size + 4 := by simp only [sizeAlloc]
    generalize (((w.alloc (.cells #[.slice none 0 0] 22)).alloc (.cells #[.int .i64 0] 3)).alloc (.cells #[.int .i64 0] 31)).alloc (.cells #[.slice sa seen.length sc, .slice none 0 0] 107) = w1 at hA hB hC hP hM0 hz0 ⊢
    generalize hn : w.heap.size = n at *
    refine hold_loop okT (rs := [.cell 4 22, .cell 5 3, .cell 6 31]) rfl [24] [9, 25, 26, 27, 28, 29, 30, 31] (fun vs w' => ∃ (k : Nat) (l : List (List UInt8)) (lv : Value), k ≤ xs.length ∧ vs = [.int .i64 k] ∧ RunOk w' (n + 3) (.slice sa seen.length sc) lv seen l ∧ w'.ownsRow (n + 4) 9 1 lv l.length (l.map strV) ∧ w'.heap[n]? = some (.cells #[.slice none 0 0] 22 (0, 0)) ∧ w'.heap[n + 1]? = some (.cells #[.int .i64 0] 3 (0, 0)) ∧ w'.heap[n + 2]? = some (.cells #[.int .i64 0] 31 (0, 0)) ∧ Mod [] w w' ∧ n + 4 ≤ w'.heap.size ∧ l.length = k ∧ runS seen xs [] = runS seen (xs.drop k) l)
      (fun vs _ => match vs with | [.int _ i] => xs.length - i.toNat | _ => 0) (by kernel_rfl) ⟨0, [], _, by omega, rfl, ⟨hP, rs.mod hM0 (by simp), ⟨by simp, none, 0, rfl, by simp, by simp⟩, hs, ls, by simp, by simp⟩, World.ownsRow_nil _ _ _ _, hA, hB, hC, hM0, by omega, rfl, rfl⟩ ?_
    rintro vs w2 J ⟨k, l, lv, hk, rfl, hrun, hown, hA, hB, hC, hM, hz, hlk, hst⟩
    by_cases hlt : k < xs.length
    · have hx2 := hx.mod hM
      obtain ⟨b1, o1, c1, e1, _, g1⟩ := hx2.rd.at (by omega) (by omega)
      have hfl := fun j hj => flat_get stpC 7 stpC_len xs k hlt j hj
      have hin := hx2.el _ (List.getElem_mem hlt)
      rw [List.drop_eq_getElem_cons hlt, runS] at hst
      generalize xs[k] = x at hfl hin hst
      rw [Value.slice.injEq] at e1
      obtain ⟨rfl, -, -⟩ := e1
      obtain ⟨xo, xcap, hsv⟩ := hin.rd.slice
      have d0 : w2.cell? ⟨b1, o1 + k * 7, none⟩ = some (.int .u8 x.d) := by rw [← g1 (k * 7) _ (hfl 0 (by omega))]
      have d1 : w2.cell? ⟨b1, o1 + k * 7 + 1, none⟩ = some (.int .i64 x.a) := by rw [← g1 (k * 7 + 1) _ (hfl 1 (by omega))]; rfl
      have d2 : w2.cell? ⟨b1, o1 + k * 7 + 2, none⟩ = some (.int .i64 x.b) := by rw [← g1 (k * 7 + 2) _ (hfl 2 (by omega))]; rfl
      have d3 : w2.cell? ⟨b1, o1 + k * 7 + 3, none⟩ = some (.int .i64 x.c) := by rw [← g1 (k * 7 + 3) _ (hfl 3 (by omega))]; rfl
      have d4 : w2.cell? ⟨b1, o1 + k * 7 + 4, none⟩ = some (.int .i64 x.n) := by rw [← g1 (k * 7 + 4) _ (hfl 4 (by omega))]; rfl
      have d5 : w2.cell? ⟨b1, o1 + k * 7 + 5, none⟩ = some (.string ⟨x.text.toArray⟩) := by rw [← g1 (k * 7 + 5) _ (hfl 5 (by omega))]; rfl
      have d6 : w2.cell? ⟨b1, o1 + k * 7 + 6, none⟩ = some (.slice xo x.list.length xcap) := by rw [← hsv, ← g1 (k * 7 + 6) _ (hfl 6 (by omega))]; rfl
      simp (maxSteps := 1000000) (disch := first | omega | (simp only [sizeAlloc, sizeDrew, sizeSet, sizePut] <;> omega) | fail) only [GS, TT_eq, TTl, Nat.reduceAdd, Nat.reduceMul, Nat.reduceSub, Nat.reduceDiv, Nat.reduceMod, Nat.reducePow, Nat.reduceEqDiff, ↓reduceIte, reduceCtorEq, Int.reduceToNat, Int.reduceAdd, Int.reduceSub, Int.reduceMul, d0, d1, d2, d3, d4, d5, d6]
      have hM3 : Mod [] w2 ((((((((w2.alloc (.cells #[.int .u8 0, .int .i64 0, .int .i64 0, .int .i64 0, .int .i64 0, .string ⟨#[]⟩, .slice none 0 0] 55)).setCell ⟨w2.heap.size, 0, none⟩ (.int .u8 x.d)).setCell ⟨w2.heap.size, 1, none⟩ (.int .i64 x.a)).setCell ⟨w2.heap.size, 2, none⟩ (.int .i64 x.b)).setCell ⟨w2.heap.size, 3, none⟩ (.int .i64 x.c)).setCell ⟨w2.heap.size, 4, none⟩ (.int .i64 x.n)).setCell ⟨w2.heap.size, 5, none⟩ (.string ⟨x.text.toArray⟩)).setCell ⟨w2.heap.size, 6, none⟩ (.slice xo x.list.length xcap)) := (((((((((Mod.refl [] w2).alloc _).set (p := ⟨w2.heap.size, 0, none⟩) (.inr (Nat.le_refl _)) _).set (p := ⟨w2.heap.size, 1, none⟩) (.inr (Nat.le_refl _)) _).set (p := ⟨w2.heap.size, 2, none⟩) (.inr (Nat.le_refl _)) _).set (p := ⟨w2.heap.size, 3, none⟩) (.inr (Nat.le_refl _)) _).set (p := ⟨w2.heap.size, 4, none⟩) (.inr (Nat.le_refl _)) _).set (p := ⟨w2.heap.size, 5, none⟩) (.inr (Nat.le_refl _)) _).set (p := ⟨w2.heap.size, 6, none⟩) (.inr (Nat.le_refl _)) _)
      generalize (((((((w2.alloc (.cells #[.int .u8 0, .int .i64 0, .int .i64 0, .int .i64 0, .int .i64 0, .string ⟨#[]⟩, .slice none 0 0] 55)).setCell ⟨w2.heap.size, 0, none⟩ (.int .u8 x.d)).setCell ⟨w2.heap.size, 1, none⟩ (.int .i64 x.a)).setCell ⟨w2.heap.size, 2, none⟩ (.int .i64 x.b)).setCell ⟨w2.heap.size, 3, none⟩ (.int .i64 x.c)).setCell ⟨w2.heap.size, 4, none⟩ (.int .i64 x.n)).setCell ⟨w2.heap.size, 5, none⟩ (.string ⟨x.text.toArray⟩)).setCell ⟨w2.heap.size, 6, none⟩ (.slice xo x.list.length xcap) = w3 at hM3 ⊢
      have hz3 := hM3.size
      have hstp : (Value.agg #[.int .u8 x.d, .int .i64 x.a, .int .i64 x.b, .int .i64 x.c, .int .i64 x.n, .string ⟨x.text.toArray⟩, .slice xo x.list.length xcap]) = .agg (stpC x).toArray := by rw [← hsv]; rfl
      rw [hstp]
      have hA3 := hM3.get hA (by simp)
      have hB3 := hM3.get hB (by simp)
      have hC3 := hM3.get hC (by simp)
      have hMw := hM.trans hM3 (by simp)
      refine ⟨fok59, step_cps (n + 3) (n + 4) _ lv seen l x _ _ (hrun.mod hM3) (hin.mod hM3 (by simp)) (ownsRow_mod hown hM3 (by simp)) (by omega) (by omega) (fun hm he lv' w4 hp4 hown4 hM4 => .inl ⟨_, rfl, hold_ops okT (rs := [.cell 4 22, .cell 5 3, .cell 6 31]) rfl ?_⟩) (fun e hcase w4 hN => .inr ⟨_, rfl, hold_ex okT (rs := [.cell 4 22, .cell 5 3, .cell 6 31]) rfl ?_⟩)⟩
      · have hob : ∀ y ∈ lv.ownBlock.toList, n + 4 ≤ y := fun y hy => (hown.lt y (by simpa using hy)).1
        have hS4 : ∀ y ∈ ((n + 3) :: lv.ownBlock.toList), n + 3 ≤ y := fun y hy => by
          simp only [List.mem_cons] at hy
          rcases hy with rfl | hy
          · exact Nat.le_refl _
          · have := hob y hy; omega
        have hMw4 : Mod [] w w4 := hMw.trans hM4 (fun y hy => .inr (by have := hS4 y hy; omega))
        rw [if_pos hm, if_pos he] at hst
        simp (maxSteps := 1000000) (disch := first | omega | (simp only [sizeAlloc, sizeDrew, sizeSet, sizePut] <;> omega) | fail) only [GS, TT_eq, TTl, Nat.reduceAdd, Nat.reduceMul, Nat.reduceSub, Nat.reduceDiv, Nat.reduceMod, Nat.reducePow, Nat.reduceEqDiff, ↓reduceIte, reduceCtorEq, Int.reduceToNat, Int.reduceAdd, Int.reduceSub, Int.reduceMul]
        refine ⟨⟨k + 1, l ++ [(doS seen l x).1], lv', by omega, rfl, ⟨hp4, rs.mod hMw4 (by simp), Rd.own hown4, hs, ls, ?_, ?_⟩, hown4, hM4.get hA3 (fun hy => by have := hS4 _ hy; omega), hM4.get hB3 (fun hy => by have := hS4 _ hy; omega), hM4.get hC3 (fun hy => by have := hS4 _ hy; omega), hMw4, ?_, ?_, hst⟩, by omega⟩
        · intro z hz'
          simp only [List.mem_append, List.mem_cons, List.not_mem_nil, or_false] at hz'
          rcases hz' with hz' | rfl
          · exact hrun.hl z hz'
          · exact doS_ok hrun.hl hm he
        · rw [List.length_append, List.length_cons, List.length_nil]; omega
        · have := hM4.size; omega
        · rw [List.length_append, List.length_cons, List.length_nil]; omega
      · have hrs : runS seen xs [] = ([], l.length, e) := by
          rw [hst]
          rcases hcase with ⟨h1, rfl⟩ | ⟨h1, rfl, h2⟩
          · rw [if_neg (by rw [h1]; simp)]
          · rw [if_pos h1, if_neg h2]
        rw [hrs] at hR
        have hA4 := hN.get hA3 (by simp)
        have hB4 := hN.get hB3 (by simp)
        have hC4 := hN.get hC3 (by simp)
        simp (maxSteps := 1000000) (disch := first | omega | (simp only [sizeAlloc, sizeDrew, sizeSet, sizePut] <;> omega) | fail) only [GS, TT_eq, TTl, Nat.reduceAdd, Nat.reduceMul, Nat.reduceSub, Nat.reduceDiv, Nat.reduceMod, Nat.reducePow, Nat.reduceEqDiff, ↓reduceIte, reduceCtorEq, Int.reduceToNat, Int.reduceAdd, Int.reduceSub, Int.reduceMul]
        refine hold_leave (rs := [.cell 4 22, .cell 5 3, .cell 6 31]) okT rfl fok58 (.inr (.inr ⟨_, rfl⟩)) (allD_pan n (n + 1) (n + 2) l.length e _ _ _ _ (by omega) (by omega) (by omega) hA4 hB4 hC4 _ fun w5 ga gb gc hM5 => .inl ⟨_, rfl, ?_⟩)
        have k1 : w5.cell? ⟨n, 0, none⟩ = some (.slice none 0 0) := by rw [cellOf ga]; rfl
        have k2 : w5.cell? ⟨n + 1, 0, none⟩ = some (.int .i64 l.length) := by rw [cellOf gb]; rfl
        have k3 : w5.cell? ⟨n + 2, 0, none⟩ = some (.int .i64 e) := by rw [cellOf gc]; rfl
        show lastW TT [.cell 4 22, .cell 5 3, .cell 6 31] R _ .returning w5
        simp (maxSteps := 1000000) (disch := first | omega | (simp only [sizeAlloc, sizeDrew, sizeSet, sizePut] <;> omega) | fail) only [GS, TT_eq, TTl, Nat.reduceAdd, Nat.reduceMul, Nat.reduceSub, Nat.reduceDiv, Nat.reduceMod, Nat.reducePow, Nat.reduceEqDiff, ↓reduceIte, reduceCtorEq, Int.reduceToNat, Int.reduceAdd, Int.reduceSub, Int.reduceMul, lastW_ret]
        show ∃ v, w5.cell? ⟨n, 0, none⟩ = some v ∧ ∃ u, w5.cell? ⟨n + 1, 0, none⟩ = some u ∧ ∃ t, w5.cell? ⟨n + 2, 0, none⟩ = some t ∧ R (.returned (.tuple #[v, u, t])) w5
        exact ⟨_, k1, _, k2, _, k3, hR _ _ (World.ownsRow_nil _ _ _ _) ((hMw.trans hN (by simp)).trans hM5 (fun y hy => .inr (by simp only [List.mem_cons, List.not_mem_nil, or_false] at hy; omega)))⟩
    · have e : k = xs.length := by omega
      subst e
      rw [List.drop_eq_nil_of_le (Nat.le_refl _), runS] at hst
      rw [hst] at hR
      have p1 : w2.cell? ⟨n + 1 + 1 + 1, 1, none⟩ = some lv := by rw [cellOf hrun.hp]; rfl
      have ca := cellOf (o := 0) hA
      have cb := cellOf (o := 0) hB
      have cc : w2.cell? ⟨n + 1 + 1, 0, none⟩ = some (.int .i64 0) := by rw [cellOf hC]; rfl
      have fa := frozenOf (o := 0) hA
      have fb := frozenOf (o := 0) hB
      have fc : w2.frozen? ⟨n + 1 + 1, 0, none⟩ = false := frozenOf hC
      have ho := ownsRow_one hown
      simp (maxSteps := 1000000) (disch := first | omega | (simp only [sizeAlloc, sizeDrew, sizeSet, sizePut] <;> omega) | fail) only [GS, TT_eq, TTl, Nat.reduceAdd, Nat.reduceMul, Nat.reduceSub, Nat.reduceDiv, Nat.reduceMod, Nat.reducePow, Nat.reduceEqDiff, ↓reduceIte, reduceCtorEq, Int.reduceToNat, Int.reduceAdd, Int.reduceSub, Int.reduceMul, p1, ca, cb, cc, fa, fb, fc, cellsL_one ho, ho]
      refine hold_leave (rs := [.cell 4 22, .cell 5 3, .cell 6 31]) okT rfl fok58 (.inr (.inl rfl)) (allD_ret _ _ _ _ _ (.inl ⟨_, rfl, ?_⟩))
      have mA : Mod [n, n + 1, n + 2] w2 (((w2.setCell ⟨n, 0, none⟩ lv).setCell ⟨n + 1, 0, none⟩ (.int .i64 0)).setCell ⟨n + 1 + 1, 0, none⟩ (.int .i64 0)) := (((Mod.refl [n, n + 1, n + 2] w2).set (p := ⟨n, 0, none⟩) (.inl (by simp)) lv).set (p := ⟨n + 1, 0, none⟩) (.inl (by simp)) (.int .i64 0)).set (p := ⟨n + 1 + 1, 0, none⟩) (.inl (by simp)) (.int .i64 0)
      have ga := heapSetNe (b := n + 1 + 1) (j := 0) (u := .int .i64 0) (heapSetNe (b := n + 1) (j := 0) (u := .int .i64 0) (heapSet (o := 0) (v := lv) hA) (by omega)) (by omega)
      have gb := heapSetNe (b := n + 1 + 1) (j := 0) (u := .int .i64 0) (heapSet (o := 0) (v := .int .i64 0) (heapSetNe (b := n) (j := 0) (u := lv) hB (by omega))) (by omega)
      have gc : (((w2.setCell ⟨n, 0, none⟩ lv).setCell ⟨n + 1, 0, none⟩ (.int .i64 0)).setCell ⟨n + 1 + 1, 0, none⟩ (.int .i64 0)).heap[n + 2]? = _ := heapSet (o := 0) (v := .int .i64 0) (heapSetNe (b := n + 1) (j := 0) (u := .int .i64 0) (heapSetNe (b := n) (j := 0) (u := lv) hC (by omega)) (by omega))
      have hown5 := ownsRow_mod hown mA (by intro y hy; simp only [List.mem_cons, List.not_mem_nil, or_false] at hy; omega)
      generalize ((w2.setCell ⟨n, 0, none⟩ lv).setCell ⟨n + 1, 0, none⟩ (.int .i64 0)).setCell ⟨n + 1 + 1, 0, none⟩ (.int .i64 0) = w5 at mA ga gb gc hown5 ⊢
      have k1 : w5.cell? ⟨n, 0, none⟩ = some lv := by rw [cellOf ga]; rfl
      have k2 : w5.cell? ⟨n + 1, 0, none⟩ = some (.int .i64 0) := by rw [cellOf gb]; rfl
      have k3 : w5.cell? ⟨n + 2, 0, none⟩ = some (.int .i64 0) := by rw [cellOf gc]; rfl
      show lastW TT [.cell 4 22, .cell 5 3, .cell 6 31] R _ .returning w5
      simp (maxSteps := 1000000) (disch := first | omega | (simp only [sizeAlloc, sizeDrew, sizeSet, sizePut] <;> omega) | fail) only [GS, TT_eq, TTl, Nat.reduceAdd, Nat.reduceMul, Nat.reduceSub, Nat.reduceDiv, Nat.reduceMod, Nat.reducePow, Nat.reduceEqDiff, ↓reduceIte, reduceCtorEq, Int.reduceToNat, Int.reduceAdd, Int.reduceSub, Int.reduceMul, lastW_ret]
      show ∃ v, w5.cell? ⟨n, 0, none⟩ = some v ∧ ∃ u, w5.cell? ⟨n + 1, 0, none⟩ = some u ∧ ∃ t, w5.cell? ⟨n + 2, 0, none⟩ = some t ∧ R (.returned (.tuple #[v, u, t])) w5
      exact ⟨_, k1, _, k2, _, k3, hR _ _ (ownsRow_base hown5 (by omega)) (hM.trans mA (fun y hy => .inr (by simp only [List.mem_cons, List.not_mem_nil, or_false] at hy; omega)))⟩
end Go.Proofs.Ytoladcdelaemoaa
