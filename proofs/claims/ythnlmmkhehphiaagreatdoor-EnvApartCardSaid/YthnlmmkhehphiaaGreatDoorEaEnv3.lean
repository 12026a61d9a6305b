/-
  env.parts (walk).
-/
import Derived.Test.YthnlmmkhehphiaaGreatDoorEaEnv2
set_option linter.unusedSimpArgs false
set_option linter.unusedVariables false
set_option maxRecDepth 20000
namespace Go.Proofs.YthnlmmkhehphiaaGreatDoor
open Go Go.Wk Go.RowKit
attribute [local irreducible] go Hold
open Go.Lib
theorem own_blk {w : World} {base e size n : Nat} {v : Value} {xs : List Value} {g : Nat} (h : w.ownsRow base e size v n xs) (hg : v.ownBlock = some g) : ∃ cs, w.heap[g]? = some (.cells cs e (0, 0)) := by
  rcases h.2 with ⟨rfl, _⟩ | ⟨g', cap, cur, rfl, hb, hgg, rest⟩
  · simp [Value.ownBlock] at hg
  · simp [Value.ownBlock] at hg
    subst hg
    exact ⟨_, hgg⟩
theorem own_nin {w : World} {base e size n : Nat} {v : Value} {xs : List Value} {k : Nat} {o : Obj} (h : w.ownsRow base e size v n xs) (ho : w.heap[k]? = some o) (hne : ∀ cs, o ≠ .cells cs e (0, 0)) : k ∉ v.ownBlock.toList := by
  intro hk
  have hg : v.ownBlock = some k := by simpa using hk
  obtain ⟨cs, hc⟩ := own_blk h hg
  rw [ho] at hc
  exact hne cs (Option.some.inj hc)
def EW : List UInt8 := [101, 110, 118]
def evL0 (x : Ev) (j : Nat) : List (List UInt8) := (dataS EW).1 :: ((evN x).take j).map fun v => (numS v).1
def evL (x : Ev) : List (List UInt8) := evL0 x 5 ++ [x.body]
theorem evL0_len {x : Ev} {j : Nat} (h : j ≤ 5) : (evL0 x j).length = 1 + j := by
  unfold evL0 evN
  simp only [List.length_cons, List.length_map, List.length_take, List.length_nil]
  omega
theorem evL0_next {x : Ev} {j : Nat} (h : j < 5) : evL0 x (j + 1) = evL0 x j ++ [(numS ((evN x).getD j 0)).1] := by
  have hj5 : j = 0 ∨ j = 1 ∨ j = 2 ∨ j = 3 ∨ j = 4 := by omega
  rcases hj5 with rfl | rfl | rfl | rfl | rfl <;> rfl
theorem dEW : dataS EW = ((dataS EW).1, 0) := by decide
theorem inN_64 {x : Ev} (h : allN x = true) {j : Nat} (hj : j < 5) : -9223372036854775808 ≤ (evN x).getD j 0 ∧ (evN x).getD j 0 ≤ 9223372036854775807 := by
  have h1 := allN_is h j hj
  unfold inN at h1
  have hj5 : j = 0 ∨ j = 1 ∨ j = 2 ∨ j = 3 ∨ j = 4 := by omega
  rcases hj5 with rfl | rfl | rfl | rfl | rfl <;> (simp only [loN, hiN, List.getD_cons_zero, List.getD_cons_succ] at h1; omega)
theorem rowNewE {w : World} {e base : Nat} (l : List Value) (hl : l.length ≤ maxLen) (hb : base ≤ w.heap.size) : (w.alloc (.cells l.toArray e)).ownsRow base e 1 (.slice (some ⟨w.heap.size, 0, none⟩) l.length l.length) l.length l :=
  ⟨by omega, .inr ⟨w.heap.size, l.length, l.toArray, rfl, hb, heapNew, Nat.le_refl _, hl, by simp, by simp⟩⟩
structure PaI (w : World) (n q : Nat) (x : Ev) (lp : Loop) (j : Nat) (w' : World) : Prop where
  a : w'.heap[n]? = some (.cells #[.int .i64 x.f, .int .i64 x.t, .int .i64 x.fe, .int .i64 x.te, .int .i64 x.no, .string ⟨x.body.toArray⟩, .string ⟨x.tag.toArray⟩] 42 (0, 0))
  b : ∃ sv, w'.heap[q + 1]? = some (.cells #[sv] 67 (0, 0)) ∧ w'.ownsRow w.heap.size 9 1 sv (evL0 x j).length ((evL0 x j).map strV) ∧ sv.oneCell' = true
  c : w'.heap[q + 2]? = some (.cells #[.pointer (some ⟨n, 0, none⟩)] 94 (0, 0))
  d : w'.heap[q + 3]? = some (.deferred (some []))
  e : w'.heap[q + 4]? = some (.loop lp)
  m : Mod [] w w'
set_option maxRecDepth 20000 in
set_option maxHeartbeats 8000000 in
theorem enParts_cps (x : Ev) (hv : allN x = true) (w : World) (R : Ending → World → Prop) (hR : ∀ v w', w'.ownsRow w.heap.size 9 1 v (evL x).length ((evL x).map strV) → Mod [] w w' → R (.returned v) w') :
    Calls Tryz.prog 49 #[evV x] w R := by
  unfold evV evC
  refine calls_go 4000 okT Tryz.func49 rfl (rs := [.tmp 2]) rfl Tryz.ntmps49 (args := [.agg #[.int .i64 x.f, .int .i64 x.t, .int .i64 x.fe, .int .i64 x.te, .int .i64 x.no, .string ⟨x.body.toArray⟩, .string ⟨x.tag.toArray⟩]]) ?_
  simp (maxSteps := 1000000) (disch := first | omega | (simp only [sizeAlloc, sizeDrew, sizeSet, sizePut] <;> omega) | fail) only [GS, TT_eq, TTl, Nat.reduceAdd, Nat.reduceMul, Nat.reduceSub, Nat.reduceDiv, Nat.reduceMod, Nat.reducePow, Nat.reduceEqDiff, ↓reduceIte, reduceCtorEq, Int.reduceToNat, Int.reduceAdd, Int.reduceSub, Int.reduceMul]
  generalize hW : w.alloc (.cells #[.int .i64 x.f, .int .i64 x.t, .int .i64 x.fe, .int .i64 x.te, .int .i64 x.no, .string ⟨x.body.toArray⟩, .string ⟨x.tag.toArray⟩] 42) = w1
  obtain ⟨hA, hM1⟩ := bx7 hW
  clear hW
  have hDt := tData_cps EW (by unfold maxLen; decide)
  rw [dEW] at hDt
  unfold stV EW at hDt
  simp only at hDt
  refine ⟨fok56, hDt _ _ fun w2 hM_ => .inl ⟨_, rfl, hold_stop (s' := some 3) (hold_ops okT (rs := [.tmp 2]) rfl ?_)⟩⟩
  replace hA := hM_.get hA (by simp)
  replace hM1 := hM1.trans hM_ (by simp)
  have hD0 : dataS [101, 110, 118] = dataS EW := rfl
  rw [hD0]
  have hnq : w.heap.size < w2.heap.size := (Array.getElem?_eq_some_iff.1 hA).1
  generalize hn : w.heap.size = n at *
  simp (maxSteps := 1000000) (disch := first | omega | (simp only [sizeAlloc, sizeDrew, sizeSet, sizePut] <;> omega) | fail) only [GS, TT_eq, TTl, Nat.reduceAdd, Nat.reduceMul, Nat.reduceSub, Nat.reduceDiv, Nat.reduceMod, Nat.reducePow, Nat.reduceEqDiff, ↓reduceIte, reduceCtorEq, Int.reduceToNat, Int.reduceAdd, Int.reduceSub, Int.reduceMul]
  generalize hDD : (dataS EW).1 = D at *
  generalize hW3 : ((w2.alloc (.cells #[.string ⟨D.toArray⟩] 9)).alloc (.cells #[.slice none 0 0] 67)).setCell ⟨w2.heap.size + 1, 0, none⟩ (.slice (some ⟨w2.heap.size, 0, none⟩) 1 1) = w3
  obtain ⟨hB, hO, hM_, hs3⟩ : w3.heap[w2.heap.size + 1]? = some (.cells #[.slice (some ⟨w2.heap.size, 0, none⟩) 1 1] 67 (0, 0)) ∧ w3.ownsRow n 9 1 (.slice (some ⟨w2.heap.size, 0, none⟩) 1 1) 1 [strV D] ∧ Mod [] w2 w3 ∧ w3.heap.size = w2.heap.size + 2 := by
    subst hW3
    have h1 := heapNew (w := w2.alloc (.cells #[.string ⟨D.toArray⟩] 9)) (o := .cells #[.slice none 0 0] 67)
    rw [sizeAlloc] at h1
    have hO := (rowNewE (w := w2) (e := 9) (base := n) [strV D] (by unfold maxLen; simp) (by omega)).alloc (.cells #[.slice none 0 0] 67)
    refine ⟨by rw [heapSet h1]; rfl, ownsRow_mod' hO ((Mod.refl [w2.heap.size + 1] _).set (p := ⟨w2.heap.size + 1, 0, none⟩) (.inl (by simp)) _) ?_, (((Mod.refl [] w2).alloc _).alloc _).set (.inr (by simp only; omega)) _, by rw [sizeSet, sizeAlloc, sizeAlloc]⟩
    intro g hg
    simp only [Value.ownBlock, Option.some.injEq] at hg
    simp only [List.mem_singleton]
    omega
  clear hW3
  replace hA := hM_.get hA (by simp)
  replace hM1 := hM1.trans hM_ (by simp)
  clear hM_
  generalize w2.heap.size = q at *
  refine hold_stop (s' := none) ?_
  refine hold_code okT (rs := [.tmp 2]) rfl ?_
  simp (maxSteps := 1000000) (disch := first | omega | (simp only [sizeAlloc, sizeDrew, sizeSet, sizePut] <;> omega) | fail) only [GS, TT_eq, TTl, Nat.reduceAdd, Nat.reduceMul, Nat.reduceSub, Nat.reduceDiv, Nat.reduceMod, Nat.reducePow, Nat.reduceEqDiff, ↓reduceIte, reduceCtorEq, Int.reduceToNat, Int.reduceAdd, Int.reduceSub, Int.reduceMul]
  refine ⟨fok57, enNums_cps _ _ _ (.inl ⟨_, rfl, hold_ops okT (rs := [.tmp 2]) rfl ?_⟩)⟩
  simp (maxSteps := 1000000) (disch := first | omega | (simp only [sizeAlloc, sizeDrew, sizeSet, sizePut] <;> omega) | fail) only [GS, TT_eq, TTl, Nat.reduceAdd, Nat.reduceMul, Nat.reduceSub, Nat.reduceDiv, Nat.reduceMod, Nat.reducePow, Nat.reduceEqDiff, ↓reduceIte, reduceCtorEq, Int.reduceToNat, Int.reduceAdd, Int.reduceSub, Int.reduceMul]
  refine hold_rangeFunc rfl fok105 fun fid => ?_
  simp only [sizeAlloc, List.toList_toArray, List.nil_append, List.cons_append, hs3]
  have hM31 := ((Mod.refl [] w3).alloc (.cells #[.pointer (some ⟨n, 0, none⟩)] 94)).alloc (.deferred (some []))
  refine enNum1_cps (q + 2) _ n _ _ (PaI w n q x _) (fun _ => False) ⟨?_, ⟨.slice (some ⟨q, 0, none⟩) 1 1, ?_, ?_, rfl⟩, ?_, ?_, heapAe (by simp only [sizeAlloc, hs3]), ?_⟩ ?_ ?_ ?_ ?_ ?_
  · exact heapAlloc (heapAlloc (heapAlloc hA))
  · exact heapAlloc (heapAlloc (heapAlloc hB))
  · rw [hn]
    have := ((hO.alloc (.cells #[.pointer (some ⟨n, 0, none⟩)] 94)).alloc (.deferred (some []))).alloc
    unfold evL0
    rw [hDD]
    exact this _
  · have := heapNew (w := w3) (o := .cells #[.pointer (some ⟨n, 0, none⟩)] 94)
    rw [hs3] at this
    exact heapAlloc (heapAlloc this)
  · refine heapAlloc ?_
    have := heapNew (w := w3.alloc (.cells #[.pointer (some ⟨n, 0, none⟩)] 94)) (o := .deferred (some []))
    rw [sizeAlloc, hs3] at this
    exact this
  · exact ((hM1.alloc _).alloc _).alloc _
  · rintro j w2 w3 ⟨ha, ⟨sv, hb1, hb2, hb3⟩, hc, hd, he, hm⟩ hM
    exact ⟨hM.get ha (by simp), ⟨sv, hM.get hb1 (by simp), ownsRow_mod hb2 hM (by simp), hb3⟩, hM.get hc (by simp), hM.get hd (by simp), hM.get he (by simp), hm.trans hM (by simp)⟩
  · have := heapNew (w := w3) (o := .cells #[.pointer (some ⟨n, 0, none⟩)] 94)
    rw [hs3] at this
    exact heapAlloc (heapAlloc this)
  · intro w2 h
    obtain ⟨ha, ⟨sv, hb1, hb2, hb3⟩, hc, hd, he, hm⟩ := h
    refine ⟨_, .normal, he, by simp, rfl, hold_ex okT (rs := [.tmp 2]) rfl ?_⟩
    generalize hW : w2.putObj _ _ = w4
    have hM3 : Mod [q + 4] w2 w4 := by rw [← hW]; exact (Mod.refl _ _).put (.inl (by simp)) _
    have cA := fun o => cellOf (o := o) (hM3.get ha (by simp; omega))
    have cB := fun o => cellOf (o := o) (hM3.get hb1 (by simp))
    have gD := hM3.get hd (by simp)
    have hm03 := hm.trans hM3 (fun x hx => .inr (by simp at hx; omega))
    have hO4 := ownsRow_mod' hb2 hM3 (fun g hg hk => by simp at hk; subst hk; exact own_nin hb2 he (by simp) (by simpa using hg))
    rw [hn] at hO4
    simp (maxSteps := 1000000) (disch := first | omega | (simp only [sizeAlloc, sizeDrew, sizeSet, sizePut] <;> omega) | fail) only [GS, TT_eq, TTl, Nat.reduceAdd, Nat.reduceMul, Nat.reduceSub, Nat.reduceDiv, Nat.reduceMod, Nat.reducePow, Nat.reduceEqDiff, ↓reduceIte, reduceCtorEq, Int.reduceToNat, Int.reduceAdd, Int.reduceSub, Int.reduceMul, cA, cB, hb3, cellsL_one hb3]
    have hl6 := evL0_len (x := x) (j := 5) (by omega)
    refine hold_append1 okT rfl rfl rfl rfl rfl n hO4 rfl rfl (u := .string ⟨x.body.toArray⟩) rfl (by rw [hl6]; simp only; omega) (by rw [hl6]; unfold maxLen; omega) (by have := hm03.size; omega) fun v' w5 ho5 hM5 _ => hold_ops okT (rs := [.tmp 2]) rfl ?_
    simp (maxSteps := 1000000) (disch := first | omega | (simp only [sizeAlloc, sizeDrew, sizeSet, sizePut] <;> omega) | fail) only [GS, TT_eq, TTl, Nat.reduceAdd, Nat.reduceMul, Nat.reduceSub, Nat.reduceDiv, Nat.reduceMod, Nat.reducePow, Nat.reduceEqDiff, ↓reduceIte, reduceCtorEq, Int.reduceToNat, Int.reduceAdd, Int.reduceSub, Int.reduceMul]
    have gD5 := hM5.get gD (own_nin hO4 gD (by simp))
    refine ⟨_, rfl, gD5, ?_⟩
    generalize hW4 : w5.putObj _ _ = w6
    have hM6 : Mod [q + 3] w5 w6 := by rw [← hW4]; exact (Mod.refl _ _).put (.inl (by simp)) _
    have ho6 := ownsRow_mod' ho5 hM6 (fun g hg hk => by simp at hk; subst hk; exact own_nin ho5 gD5 (by simp) (by simpa using hg))
    have hm06 := (hm03.trans hM5 (fun y hy => .inr (by have := (hO4.lt y (by simpa using hy)).1; omega))).trans hM6 (fun x hx => .inr (by simp at hx; omega))
    simp (maxSteps := 1000000) only [GS, TT_eq, TTl, Nat.reduceAdd, Nat.reduceMul, Nat.reduceSub, Nat.reduceDiv, Nat.reduceMod, Nat.reducePow, Nat.reduceEqDiff, ↓reduceIte, reduceCtorEq, Int.reduceToNat, Int.reduceAdd, Int.reduceSub, Int.reduceMul, leaveW]
    have hl7 : (evL x).length = (evL0 x 5).length + 1 := by unfold evL; simp
    refine hR v' w6 ?_ hm06
    rw [hl7]
    unfold evL
    rw [List.map_append]
    exact ho6
  · intro w2 h
    exact h.elim
  · intro j hj w2 h s0 c hs0 hl0
    obtain ⟨ha, ⟨sv, hb1, hb2, hb3⟩, hc, hd, he, hm⟩ := h
    simp only [sizeAlloc, hs3] at hs0
    have hva : w2.cell? ⟨n, j, none⟩ = some (.int .i64 ((evN x).getD j 0)) := by
      have cs := fun o => cellOf (o := o) ha
      have hj5 : j = 0 ∨ j = 1 ∨ j = 2 ∨ j = 3 ∨ j = 4 := by omega
      rcases hj5 with rfl | rfl | rfl | rfl | rfl <;> exact cs _
    have h64 := inN_64 hv hj
    have hnx := evL0_next (x := x) hj
    have hl0j := evL0_len (x := x) (j := j) (by omega)
    refine yieldW_of (args := [.agg (numC n j).toArray]) he rfl (hold_code okT (rs := []) rfl ?_)
    unfold numC
    generalize (evN x).getD j 0 = v at *
    generalize loN.getD j 0 = lo at *
    generalize hiN.getD j 0 = hi at *
    simp (maxSteps := 1000000) (disch := first | omega | (simp only [sizeAlloc, sizeDrew, sizeSet, sizePut] <;> omega) | fail) only [GS, TT_eq, TTl, Nat.reduceAdd, Nat.reduceMul, Nat.reduceSub, Nat.reduceDiv, Nat.reduceMod, Nat.reducePow, Nat.reduceEqDiff, ↓reduceIte, reduceCtorEq, Int.reduceToNat, Int.reduceAdd, Int.reduceSub, Int.reduceMul]
    generalize hW : (((w2.alloc (.cells #[.pointer none, .int .i64 0, .int .i64 0] 97)).setCell ⟨w2.heap.size, 0, none⟩ (.pointer (some ⟨n, j, none⟩))).setCell ⟨w2.heap.size, 1, none⟩ (.int .i64 lo)).setCell ⟨w2.heap.size, 2, none⟩ (.int .i64 hi) = w4
    obtain ⟨hT, hM3⟩ := box3n hW
    clear hW
    have hq : q + 4 < w2.heap.size := (Array.getElem?_eq_some_iff.1 he).1
    have hs0l : s0 < w2.heap.size := (Array.getElem?_eq_some_iff.1 hl0).1
    have hs4 := hM3.block s0 hs0l (by simp)
    generalize w2.heap.size = qt at *
    have he3 := hM3.get he (by simp)
    have ha3 := hM3.get ha (by simp)
    have hb13 := hM3.get hb1 (by simp)
    have hb23 := ownsRow_mod hb2 hM3 (by simp)
    have hc3 := hM3.get hc (by simp)
    have hd3 := hM3.get hd (by simp)
    have hl03 := hM3.get hl0 (by simp)
    have hm03 := hm.trans hM3 (by simp)
    have hva3 := cellMS14 hva hM3 (by simp)
    refine ⟨rfl, rfl, _, he3, rfl, hold_code okT (rs := []) rfl ?_⟩
    generalize hO' : Obj.loop _ = o3
    generalize hW : w4.putObj _ o3 = w5
    have hM4 : Mod [q + 4] w4 w5 := by rw [← hW]; exact (Mod.refl _ _).put (.inl (by simp)) _
    have g4 : w5.heap[q + 4]? = some o3 := by rw [← hW]; exact heapPe he3
    rw [← hO'] at g4
    clear hO' hW
    have hs5 : w5.heap[s0]? = w2.heap[s0]? := (hM4.block s0 (Array.getElem?_eq_some_iff.1 hl03).1 (by simp; omega)).trans hs4
    have gT := hM4.get hT (by simp; omega)
    have gA := hM4.get ha3 (by simp; omega)
    have gB := hM4.get hb13 (by simp)
    have gC := hM4.get hc3 (by simp)
    have gD := hM4.get hd3 (by simp)
    have gL := hM4.get hl03 (by simp; omega)
    have gO := ownsRow_mod' hb23 hM4 (fun g hg hk => by simp at hk; subst hk; exact own_nin hb23 he3 (by simp) (by simpa using hg))
    have gv := cellMS14 hva3 hM4 (by simp; omega)
    have cT := fun o => cellOf (o := o) gT
    have hm04 := hm03.trans hM4 (fun x hx => .inr (by simp at hx; omega))
    simp (maxSteps := 1000000) (disch := first | omega | (simp only [sizeAlloc, sizeDrew, sizeSet, sizePut] <;> omega) | fail) only [GS, TT_eq, TTl, Nat.reduceAdd, Nat.reduceMul, Nat.reduceSub, Nat.reduceDiv, Nat.reduceMod, Nat.reducePow, Nat.reduceEqDiff, ↓reduceIte, reduceCtorEq, Int.reduceToNat, Int.reduceAdd, Int.reduceSub, Int.reduceMul, cT, gv]
    refine ⟨fok98, tNum_cps v h64.1 h64.2 _ _ fun w6 hM6 => .inl ⟨_, rfl, hold_ops okT (rs := []) rfl ?_⟩⟩
    unfold stV
    have iA := hM6.get gA (by simp)
    have iB := hM6.get gB (by simp)
    have iC := hM6.get gC (by simp)
    have iD := hM6.get gD (by simp)
    have iE := hM6.get g4 (by simp)
    have iL := hM6.get gL (by simp)
    have iO := ownsRow_mod gO hM6 (by simp)
    have hm06 := hm04.trans hM6 (by simp)
    have hs6 : w6.heap[s0]? = w2.heap[s0]? := (hM6.block s0 (Array.getElem?_eq_some_iff.1 gL).1 (by simp)).trans hs5
    have cB := fun o => cellOf (o := o) iB
    simp (maxSteps := 1000000) (disch := first | omega | (simp only [sizeAlloc, sizeDrew, sizeSet, sizePut] <;> omega) | fail) only [GS, TT_eq, TTl, Nat.reduceAdd, Nat.reduceMul, Nat.reduceSub, Nat.reduceDiv, Nat.reduceMod, Nat.reducePow, Nat.reduceEqDiff, ↓reduceIte, reduceCtorEq, Int.reduceToNat, Int.reduceAdd, Int.reduceSub, Int.reduceMul, cB, hb3, cellsL_one hb3]
    rw [hn] at iO
    refine hold_append1 okT rfl rfl rfl rfl rfl n iO rfl rfl (u := .string ⟨(numS v).1.toArray⟩) rfl (by rw [hl0j]; simp only; omega) (by rw [hl0j]; unfold maxLen; omega) (by have := hm06.size; omega) fun v' w7 ho7 hM7 _ => hold_ops okT (rs := []) rfl ?_
    have kA := hM7.get iA (own_nin iO iA (by simp))
    have kB := hM7.get iB (own_nin iO iB (by simp))
    have kC := hM7.get iC (own_nin iO iC (by simp))
    have kD := hM7.get iD (own_nin iO iD (by simp))
    have kE := hM7.get iE (own_nin iO iE (by simp))
    have hs7 : w7.heap[s0]? = w2.heap[s0]? := (hM7.block s0 (Array.getElem?_eq_some_iff.1 iL).1 (own_nin iO iL (by simp))).trans hs6
    have kL := hM7.get iL (own_nin iO iL (by simp))
    have hm07 := hm06.trans hM7 (fun y hy => .inr (by have := (iO.lt y (by simpa using hy)).1; omega))
    have hv7 := ownsRow_one ho7
    have cB7 := fun o => cellOf (o := o) kB
    have xB7 := fun o => frozenOf (o := o) kB
    simp (maxSteps := 1000000) (disch := first | omega | (simp only [sizeAlloc, sizeDrew, sizeSet, sizePut] <;> omega) | fail) only [GS, TT_eq, TTl, Nat.reduceAdd, Nat.reduceMul, Nat.reduceSub, Nat.reduceDiv, Nat.reduceMod, Nat.reducePow, Nat.reduceEqDiff, ↓reduceIte, reduceCtorEq, Int.reduceToNat, Int.reduceAdd, Int.reduceSub, Int.reduceMul, cB7, xB7, hv7, cellsL_one hv7]
    have hMs := (Mod.refl [q + 1] w7).set (p := ⟨q + 1, 0, none⟩) (.inl (by simp)) v'
    have hl8 := heapSetNe (b := q + 1) (j := 0) (u := v') kE (by omega)
    have hE8 : (w7.setCell ⟨q + 1, 0, none⟩ v').heap[q + 1]? = some (.cells #[v'] 67 (0, 0)) := by rw [heapSet kB]; rfl
    have hO8 := ownsRow_mod' ho7 hMs (fun g hg hk => by simp at hk; subst hk; exact own_nin ho7 kB (by simp) (by simpa using hg))
    have hlt7 := (Array.getElem?_eq_some_iff.1 kL).1
    refine ⟨_, hl8, ?_, .inl ⟨rfl, ⟨?_, ⟨v', ?_, ?_, hv7⟩, ?_, ?_, heapPe hl8, ?_⟩⟩⟩
    · rw [heapPn (by omega)]
      exact (hMs.block s0 hlt7 (by simp; omega)).trans hs7
    · rw [heapPn (by omega)]; exact hMs.get kA (by simp; omega)
    · rw [heapPn (by omega)]; exact hE8
    · rw [hn, hnx, List.length_append, List.map_append]
      refine ownsRow_mod' hO8 ((Mod.refl [q + 4] _).put (.inl (by simp)) _) (fun g hg hk => by simp at hk; subst hk; exact own_nin hO8 hl8 (by simp) (by simpa using hg))
    · rw [heapPn (by omega)]; exact hMs.get kC (by simp)
    · rw [heapPn (by omega)]; exact hMs.get kD (by simp)
    · exact (hm07.set (p := ⟨q + 1, 0, none⟩) (.inr (by simp only; omega)) _).put (.inr (by omega)) _
end Go.Proofs.YthnlmmkhehphiaaGreatDoor
