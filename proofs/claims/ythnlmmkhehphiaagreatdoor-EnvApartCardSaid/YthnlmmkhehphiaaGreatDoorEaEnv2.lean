/-
  env.may (walk).
-/
import Derived.Test.YthnlmmkhehphiaaGreatDoorEaEnv1
set_option linter.unusedSimpArgs false
set_option linter.unusedVariables false
set_option maxRecDepth 20000
namespace Go.Proofs.YthnlmmkhehphiaaGreatDoor
open Go Go.Wk Go.RowKit
attribute [local irreducible] go Hold
open Go.Lib
def inN (x : Ev) (j : Nat) : Prop := loN.getD j 0 ≤ (evN x).getD j 0 ∧ (evN x).getD j 0 ≤ hiN.getD j 0
instance (x : Ev) (j : Nat) : Decidable (inN x j) := inferInstanceAs (Decidable (_ ∧ _))
/-- Whether what is tagged of an envelope may be. -/
def allN (x : Ev) : Bool := (List.range 5).all fun j => decide (inN x j)
def mayH (x : Ev) : Bool := allN x && (decide (x.f ≠ x.t) && decide (checkS x.body = 0))
theorem allN_of {x : Ev} (h : ∀ j < 5, inN x j) : allN x = true := List.all_eq_true.2 fun j hj => decide_eq_true (h j (List.mem_range.1 hj))
theorem allN_no {x : Ev} {j : Nat} (hj : j < 5) (h : ¬ inN x j) : allN x = false := List.all_eq_false.2 ⟨j, List.mem_range.2 hj, by simpa using h⟩
theorem allN_is {x : Ev} (h : allN x = true) : ∀ j < 5, inN x j := fun j hj => of_decide_eq_true (List.all_eq_true.1 h j (List.mem_range.2 hj))
theorem cellMS14 {S : List Nat} {w w' : World} {b o : Nat} {v : Value} (h : w.cell? ⟨b, o, none⟩ = some v) (hm : Mod S w w') (hb : b ∉ S) : w'.cell? ⟨b, o, none⟩ = some v := by
  rw [World.cell?_of_block (w := w) (hm.block b (World.block_lt_of_cell? w _ h) hb)]
  exact h
theorem bx7 {w W : World} {t : Nat} {a0 a1 a2 a3 a4 a5 a6 : Value} (h : w.alloc (.cells #[a0, a1, a2, a3, a4, a5, a6] t) = W) : W.heap[w.heap.size]? = some (.cells #[a0, a1, a2, a3, a4, a5, a6] t (0, 0)) ∧ Mod [] w W := by
  subst h
  exact ⟨heapNew, (Mod.refl [] w).alloc _⟩
theorem two7 {w W : World} {A B : Obj} (h : (w.alloc A).alloc B = W) : W.heap[w.heap.size]? = some A ∧ W.heap[w.heap.size + 1]? = some B ∧ Mod [] w W ∧ W.heap.size = w.heap.size + 2 := by
  subst h
  have h1 := heapNew (w := w.alloc A) (o := B)
  rw [sizeAlloc] at h1
  exact ⟨heapAlloc heapNew, h1, ((Mod.refl [] w).alloc A).alloc B, by rw [sizeAlloc, sizeAlloc]⟩
structure MayI (w : World) (n : Nat) (x : Ev) (lp : Loop) (j : Nat) (w' : World) : Prop where
  a : w'.heap[n]? = some (.cells #[.int .i64 x.f, .int .i64 x.t, .int .i64 x.fe, .int .i64 x.te, .int .i64 x.no, .string ⟨x.body.toArray⟩, .string ⟨x.tag.toArray⟩] 42 (0, 0))
  b : w'.heap[n + 1]? = some (.cells #[.bool false] 4 (0, 0))
  c : w'.heap[n + 2]? = some (.cells #[.pointer (some ⟨n, 0, none⟩)] 94 (0, 0))
  d : w'.heap[n + 3]? = some (.deferred (some []))
  e : w'.heap[n + 4]? = some (.loop lp)
  ok : ∀ i < j, inN x i
  m : Mod [] w w'
structure MayO (w : World) (n : Nat) (x : Ev) (lp : Loop) (w' : World) : Prop where
  no : allN x = false
  b : w'.heap[n + 1]? = some (.cells #[.bool false] 4 (0, 0))
  d : w'.heap[n + 3]? = some (.deferred (some []))
  e : w'.heap[n + 4]? = some (.loop { lp with state := .done, pending := some .ret })
  m : Mod [] w w'
set_option maxRecDepth 20000 in
set_option maxHeartbeats 8000000 in
theorem enMay_cps (x : Ev) (hb : x.body.length ≤ maxLen) (w : World) (R : Ending → World → Prop) (hR : ∀ w', Mod [] w w' → R (.returned (.bool (mayH x))) w') :
    Calls Tryz.prog 47 #[evV x] w R := by
  unfold evV evC
  refine calls_go 4000 okT Tryz.func47 rfl (rs := [.cell 2 4]) rfl Tryz.ntmps47 (args := [.agg #[.int .i64 x.f, .int .i64 x.t, .int .i64 x.fe, .int .i64 x.te, .int .i64 x.no, .string ⟨x.body.toArray⟩, .string ⟨x.tag.toArray⟩]]) ?_
  simp (maxSteps := 1000000) (disch := first | omega | (simp only [sizeAlloc, sizeDrew, sizeSet, sizePut] <;> omega) | fail) only [GS, TT_eq, TTl, Nat.reduceAdd, Nat.reduceMul, Nat.reduceSub, Nat.reduceDiv, Nat.reduceMod, Nat.reducePow, Nat.reduceEqDiff, ↓reduceIte, reduceCtorEq, Int.reduceToNat, Int.reduceAdd, Int.reduceSub, Int.reduceMul]
  generalize hW : (w.alloc (.cells #[.int .i64 x.f, .int .i64 x.t, .int .i64 x.fe, .int .i64 x.te, .int .i64 x.no, .string ⟨x.body.toArray⟩, .string ⟨x.tag.toArray⟩] 42)).alloc (.cells #[.bool false] 4) = w1
  obtain ⟨hA, hB, hM1, hs1⟩ := two7 hW
  clear hW
  refine ⟨fok57, enNums_cps _ _ _ (.inl ⟨_, rfl, hold_ops okT (rs := [.cell 2 4]) rfl ?_⟩)⟩
  simp (maxSteps := 1000000) (disch := first | omega | (simp only [sizeAlloc, sizeDrew, sizeSet, sizePut] <;> omega) | fail) only [GS, TT_eq, TTl, Nat.reduceAdd, Nat.reduceMul, Nat.reduceSub, Nat.reduceDiv, Nat.reduceMod, Nat.reducePow, Nat.reduceEqDiff, ↓reduceIte, reduceCtorEq, Int.reduceToNat, Int.reduceAdd, Int.reduceSub, Int.reduceMul]
  refine hold_rangeFunc rfl fok105 fun fid => ?_
  simp only [sizeAlloc, List.toList_toArray, List.nil_append, List.cons_append, hs1]
  generalize hn : w.heap.size = n at *
  refine enNum1_cps (n + 2) _ n _ _ (MayI w n x _) (fun w' => ∃ lp, MayO w n x lp w') ⟨?_, ?_, ?_, ?_, heapAe (by simp only [sizeAlloc, hs1]), by simp, ?_⟩ ?_ ?_ ?_ ?_ ?_
  · exact heapAlloc (heapAlloc (heapAlloc hA))
  · exact heapAlloc (heapAlloc (heapAlloc hB))
  · have := heapNew (w := w1) (o := .cells #[.pointer (some ⟨n, 0, none⟩)] 94)
    rw [hs1] at this
    exact heapAlloc (heapAlloc this)
  · refine heapAlloc ?_
    have := heapNew (w := w1.alloc (.cells #[.pointer (some ⟨n, 0, none⟩)] 94)) (o := .deferred (some []))
    rw [sizeAlloc, hs1] at this
    exact this
  · exact ((hM1.alloc _).alloc _).alloc _
  · intro j w2 w3 h hM
    exact ⟨hM.get h.a (by simp), hM.get h.b (by simp), hM.get h.c (by simp), hM.get h.d (by simp), hM.get h.e (by simp), h.ok, h.m.trans hM (by simp)⟩
  · have := heapNew (w := w1) (o := .cells #[.pointer (some ⟨n, 0, none⟩)] 94)
    rw [hs1] at this
    exact heapAlloc (heapAlloc this)
  · intro w2 h
    refine ⟨_, .normal, h.e, by simp, rfl, hold_ex okT (rs := [.cell 2 4]) rfl ?_⟩
    generalize hW : w2.putObj _ _ = w3
    have hM3 : Mod [n + 4] w2 w3 := by rw [← hW]; exact (Mod.refl _ _).put (.inl (by simp)) _
    have cA := fun o => cellOf (o := o) (hM3.get h.a (by simp))
    have cB := fun o => cellOf (o := o) (hM3.get h.b (by simp))
    have xB := fun o => frozenOf (o := o) (hM3.get h.b (by simp))
    have hall := allN_of h.ok
    have hm03 := h.m.trans hM3 (fun x hx => .inr (by simp at hx; omega))
    have gB := hM3.get h.b (by simp)
    have gD := hM3.get h.d (by simp)
    have hend : ∀ (bb : Bool) (w4 w6 : World) (o4 : Obj), Mod [] w3 w4 → bb = mayH x → (w4.setCell ⟨n + 1, 0, none⟩ (.bool bb)).putObj (n + 2 + 1) o4 = w6 → w6.heap[n + 1]? = some (.cells #[.bool bb] 4 (0, 0)) ∧ R (.returned (.bool bb)) w6 := by
      rintro bb w4 w6 o4 hM hbb rfl
      have g1 : (w4.setCell ⟨n + 1, 0, none⟩ (.bool bb)).heap[n + 1]? = some (.cells #[.bool bb] 4 (0, 0)) := by rw [heapSet (hM.get gB (by simp))]; rfl
      refine ⟨by rw [heapPn (by omega)]; exact g1, ?_⟩
      rw [hbb]
      exact hR _ (((hm03.trans hM (by simp)).set (p := ⟨n + 1, 0, none⟩) (.inr (by simp only; omega)) _).put (.inr (by omega)) _)
    by_cases hft : x.f = x.t
    · have hmy : false = mayH x := by unfold mayH; rw [hall, decide_eq_false (fun h => h hft)]; rfl
      simp (maxSteps := 1000000) (disch := first | omega | (simp only [sizeAlloc, sizeDrew, sizeSet, sizePut] <;> omega) | fail) only [GS, TT_eq, TTl, Nat.reduceAdd, Nat.reduceMul, Nat.reduceSub, Nat.reduceDiv, Nat.reduceMod, Nat.reducePow, Nat.reduceEqDiff, ↓reduceIte, reduceCtorEq, Int.reduceToNat, Int.reduceAdd, Int.reduceSub, Int.reduceMul, cA, cB, xB, hft, eq_self]
      refine ⟨_, rfl, heapSetNe gD (by omega), ?_⟩
      generalize hW6 : (w3.setCell ⟨n + 1, 0, none⟩ (.bool false)).putObj _ _ = w6
      obtain ⟨g6, hF⟩ := hend _ _ _ _ (Mod.refl [] w3) hmy hW6
      have c6 := fun o => cellOf (o := o) g6
      simp (maxSteps := 1000000) only [GS, TT_eq, TTl, Nat.reduceAdd, Nat.reduceMul, Nat.reduceSub, Nat.reduceDiv, Nat.reduceMod, Nat.reducePow, Nat.reduceEqDiff, ↓reduceIte, reduceCtorEq, Int.reduceToNat, Int.reduceAdd, Int.reduceSub, Int.reduceMul, leaveW]
      exact ⟨_, c6 0, hF⟩
    · simp (maxSteps := 1000000) (disch := first | omega | (simp only [sizeAlloc, sizeDrew, sizeSet, sizePut] <;> omega) | fail) only [GS, TT_eq, TTl, Nat.reduceAdd, Nat.reduceMul, Nat.reduceSub, Nat.reduceDiv, Nat.reduceMod, Nat.reducePow, Nat.reduceEqDiff, ↓reduceIte, reduceCtorEq, Int.reduceToNat, Int.reduceAdd, Int.reduceSub, Int.reduceMul, cA, cB, xB, hft]
      refine ⟨fok62, tCheck_cps x.body hb _ _ fun w4 hM4 => .inl ⟨_, rfl, hold_ops okT (rs := [.cell 2 4]) rfl ?_⟩⟩
      have xB4 := fun o => frozenOf (o := o) (hM4.get gB (by simp))
      have cB4 := fun o => cellOf (o := o) (hM4.get gB (by simp))
      have gD4 := hM4.get gD (by simp)
      by_cases hcb : checkS x.body = 0
      · have hmy : true = mayH x := by unfold mayH; rw [hall, decide_eq_true hft, decide_eq_true hcb]; rfl
        simp (maxSteps := 1000000) (disch := first | omega | (simp only [sizeAlloc, sizeDrew, sizeSet, sizePut] <;> omega) | fail) only [GS, TT_eq, TTl, Nat.reduceAdd, Nat.reduceMul, Nat.reduceSub, Nat.reduceDiv, Nat.reduceMod, Nat.reducePow, Nat.reduceEqDiff, ↓reduceIte, reduceCtorEq, Int.reduceToNat, Int.reduceAdd, Int.reduceSub, Int.reduceMul, cB4, xB4, hcb]
        refine ⟨_, rfl, heapSetNe gD4 (by omega), ?_⟩
        generalize hW6 : (w4.setCell ⟨n + 1, 0, none⟩ (.bool true)).putObj _ _ = w6
        obtain ⟨g6, hF⟩ := hend _ _ _ _ hM4 hmy hW6
        have c6 := fun o => cellOf (o := o) g6
        simp (maxSteps := 1000000) only [GS, TT_eq, TTl, Nat.reduceAdd, Nat.reduceMul, Nat.reduceSub, Nat.reduceDiv, Nat.reduceMod, Nat.reducePow, Nat.reduceEqDiff, ↓reduceIte, reduceCtorEq, Int.reduceToNat, Int.reduceAdd, Int.reduceSub, Int.reduceMul, leaveW]
        exact ⟨_, c6 0, hF⟩
      · have hmy : false = mayH x := by unfold mayH; rw [hall, decide_eq_true hft, decide_eq_false hcb]; rfl
        simp (maxSteps := 1000000) (disch := first | omega | (simp only [sizeAlloc, sizeDrew, sizeSet, sizePut] <;> omega) | fail) only [GS, TT_eq, TTl, Nat.reduceAdd, Nat.reduceMul, Nat.reduceSub, Nat.reduceDiv, Nat.reduceMod, Nat.reducePow, Nat.reduceEqDiff, ↓reduceIte, reduceCtorEq, Int.reduceToNat, Int.reduceAdd, Int.reduceSub, Int.reduceMul, cB4, xB4, hcb]
        refine ⟨_, rfl, heapSetNe gD4 (by omega), ?_⟩
        generalize hW6 : (w4.setCell ⟨n + 1, 0, none⟩ (.bool false)).putObj _ _ = w6
        obtain ⟨g6, hF⟩ := hend _ _ _ _ hM4 hmy hW6
        have c6 := fun o => cellOf (o := o) g6
        simp (maxSteps := 1000000) only [GS, TT_eq, TTl, Nat.reduceAdd, Nat.reduceMul, Nat.reduceSub, Nat.reduceDiv, Nat.reduceMod, Nat.reducePow, Nat.reduceEqDiff, ↓reduceIte, reduceCtorEq, Int.reduceToNat, Int.reduceAdd, Int.reduceSub, Int.reduceMul, leaveW]
        exact ⟨_, c6 0, hF⟩
  · rintro w2 ⟨lp, h⟩
    refine ⟨_, .ret, h.e, by simp, rfl, hold_ex okT (rs := [.cell 2 4]) rfl ?_⟩
    generalize hW : w2.putObj _ _ = w3
    have hM3 : Mod [n + 4] w2 w3 := by rw [← hW]; exact (Mod.refl _ _).put (.inl (by simp)) _
    have hm03 := h.m.trans hM3 (fun x hx => .inr (by simp at hx; omega))
    have gB := hM3.get h.b (by simp)
    simp (maxSteps := 1000000) (disch := first | omega | (simp only [sizeAlloc, sizeDrew, sizeSet, sizePut] <;> omega) | fail) only [GS, TT_eq, TTl, Nat.reduceAdd, Nat.reduceMul, Nat.reduceSub, Nat.reduceDiv, Nat.reduceMod, Nat.reducePow, Nat.reduceEqDiff, ↓reduceIte, reduceCtorEq, Int.reduceToNat, Int.reduceAdd, Int.reduceSub, Int.reduceMul]
    refine ⟨_, rfl, hM3.get h.d (by simp), ?_⟩
    generalize hW4 : w3.putObj _ _ = w4
    have hM4 : Mod [n + 3] w3 w4 := by rw [← hW4]; exact (Mod.refl _ _).put (.inl (by simp)) _
    have hm04 := hm03.trans hM4 (fun x hx => .inr (by simp at hx; omega))
    have cB := fun o => cellOf (o := o) (hM4.get gB (by simp))
    simp (maxSteps := 1000000) only [GS, TT_eq, TTl, Nat.reduceAdd, Nat.reduceMul, Nat.reduceSub, Nat.reduceDiv, Nat.reduceMod, Nat.reducePow, Nat.reduceEqDiff, ↓reduceIte, reduceCtorEq, Int.reduceToNat, Int.reduceAdd, Int.reduceSub, Int.reduceMul, leaveW]
    refine ⟨_, cB 0, ?_⟩
    have hmy : false = mayH x := by unfold mayH; rw [h.no]; rfl
    show R (.returned (.bool false)) w4
    rw [hmy]
    exact hR _ hm04
  · intro j hj w2 h s0 c hs0 hl0
    simp only [sizeAlloc, hs1] at hs0
    refine yieldW_of (args := [.agg (numC n j).toArray]) h.e rfl (hold_code okT (rs := []) rfl ?_)
    have hno := fun hi => allN_no (x := x) hj hi
    have hin : ∀ {i : Nat}, i < j + 1 → ¬ i < j → i = j := fun h1 h2 => by omega
    have hva : w2.cell? ⟨n, j, none⟩ = some (.int .i64 ((evN x).getD j 0)) := by
      have cs := fun o => cellOf (o := o) h.a
      have hj5 : j = 0 ∨ j = 1 ∨ j = 2 ∨ j = 3 ∨ j = 4 := by omega
      rcases hj5 with rfl | rfl | rfl | rfl | rfl <;> exact cs _
    unfold inN at hno
    have hok : (loN.getD j 0 ≤ (evN x).getD j 0 ∧ (evN x).getD j 0 ≤ hiN.getD j 0) → ∀ i < j + 1, inN x i := fun h1 i hi => by
      by_cases hij : i < j
      · exact h.ok i hij
      · rw [show i = j by omega]; exact h1
    unfold numC
    generalize (evN x).getD j 0 = v at *
    generalize loN.getD j 0 = lo at *
    generalize hiN.getD j 0 = hi at *
    simp (maxSteps := 1000000) (disch := first | omega | (simp only [sizeAlloc, sizeDrew, sizeSet, sizePut] <;> omega) | fail) only [GS, TT_eq, TTl, Nat.reduceAdd, Nat.reduceMul, Nat.reduceSub, Nat.reduceDiv, Nat.reduceMod, Nat.reducePow, Nat.reduceEqDiff, ↓reduceIte, reduceCtorEq, Int.reduceToNat, Int.reduceAdd, Int.reduceSub, Int.reduceMul]
    generalize hW : (((w2.alloc (.cells #[.pointer none, .int .i64 0, .int .i64 0] 97)).setCell ⟨w2.heap.size, 0, none⟩ (.pointer (some ⟨n, j, none⟩))).setCell ⟨w2.heap.size, 1, none⟩ (.int .i64 lo)).setCell ⟨w2.heap.size, 2, none⟩ (.int .i64 hi) = w3
    obtain ⟨hT, hM3⟩ := box3n hW
    clear hW
    have hq : n + 4 < w2.heap.size := (Array.getElem?_eq_some_iff.1 h.e).1
    generalize w2.heap.size = q at *
    have he3 := hM3.get h.e (by simp)
    refine ⟨rfl, rfl, _, he3, rfl, hold_code okT (rs := []) rfl ?_⟩
    generalize hO : Obj.loop _ = o3
    generalize hW : w3.putObj _ o3 = w4
    have hM4 : Mod [n + 4] w3 w4 := by rw [← hW]; exact (Mod.refl _ _).put (.inl (by simp)) _
    have g4 : w4.heap[n + 4]? = some o3 := by rw [← hW]; exact heapPe he3
    rw [← hO] at g4
    clear hO hW
    have hs4 : w4.heap[s0]? = w2.heap[s0]? := by
      rw [hM4.block s0 (by have := (Array.getElem?_eq_some_iff.1 (hM3.get hl0 (by simp))).1; omega) (by simp; omega)]
      exact hM3.block s0 (Array.getElem?_eq_some_iff.1 hl0).1 (by simp)
    have hs04 : s0 < w4.heap.size := by have h1 := (Array.getElem?_eq_some_iff.1 hl0).1; have h2 := hM3.size; have h3 := hM4.size; omega
    have gA := hM4.get (hM3.get h.a (by simp)) (by simp)
    have gB := hM4.get (hM3.get h.b (by simp)) (by simp)
    have gC := hM4.get (hM3.get h.c (by simp)) (by simp)
    have gD := hM4.get (hM3.get h.d (by simp)) (by simp)
    have hnq : n + 4 < q := hq
    have gT := hM4.get hT (by simp; omega)
    have gv := cellMS14 (cellMS14 hva hM3 (by simp)) hM4 (by simp)
    have cT := fun o => cellOf (o := o) gT
    have xB := fun o => frozenOf (o := o) gB
    have cB := fun o => cellOf (o := o) gB
    have hm04 := (h.m.trans hM3 (by simp)).trans hM4 (fun x hx => .inr (by simp at hx; omega))
    by_cases hlo : v < lo
    · have hn1 := hno (fun h => by omega)
      simp (maxSteps := 1000000) (disch := first | omega | (simp only [sizeAlloc, sizeDrew, sizeSet, sizePut] <;> omega) | fail) only [GS, TT_eq, TTl, Nat.reduceAdd, Nat.reduceMul, Nat.reduceSub, Nat.reduceDiv, Nat.reduceMod, Nat.reducePow, Nat.reduceEqDiff, ↓reduceIte, reduceCtorEq, Int.reduceToNat, Int.reduceAdd, Int.reduceSub, Int.reduceMul, cT, gv, hlo, cB, xB]
      refine ⟨by kernel_rfl, fun m => ?_⟩
      have hl4 := heapSetNe (b := n + 1) (j := 0) (u := .bool false) g4 (by omega)
      refine ⟨_, hl4, ?_, .inr ⟨rfl, _, ⟨hn1, ?_, ?_, heapPe hl4, ?_⟩⟩⟩
      · rw [heapPn (by omega)]
        show (w4.setCell ⟨n + 1, 0, none⟩ (.bool false)).heap[s0]? = _
        rw [(((Mod.refl [n + 1] w4).set (p := ⟨n + 1, 0, none⟩) (.inl (by simp)) (.bool false)).block s0 hs04 (by simp; omega))]
        exact hs4
      · rw [heapPn (by omega)]
        show (w4.setCell ⟨n + 1, 0, none⟩ (.bool false)).heap[n + 1]? = _
        rw [heapSet gB]
        rfl
      · rw [heapPn (by omega)]
        exact heapSetNe gD (by omega)
      · exact ((hm04.set (p := ⟨n + 1, 0, none⟩) (.inr (by simp only; omega)) _).drewN m).put (.inr (by omega)) _
    by_cases hhi : hi < v
    · have hn1 := hno (fun h => by omega)
      simp (maxSteps := 1000000) (disch := first | omega | (simp only [sizeAlloc, sizeDrew, sizeSet, sizePut] <;> omega) | fail) only [GS, TT_eq, TTl, Nat.reduceAdd, Nat.reduceMul, Nat.reduceSub, Nat.reduceDiv, Nat.reduceMod, Nat.reducePow, Nat.reduceEqDiff, ↓reduceIte, reduceCtorEq, Int.reduceToNat, Int.reduceAdd, Int.reduceSub, Int.reduceMul, cT, gv, hlo, hhi, cB, xB]
      refine ⟨by kernel_rfl, fun m => ?_⟩
      have hl4 := heapSetNe (b := n + 1) (j := 0) (u := .bool false) g4 (by omega)
      refine ⟨_, hl4, ?_, .inr ⟨rfl, _, ⟨hn1, ?_, ?_, heapPe hl4, ?_⟩⟩⟩
      · rw [heapPn (by omega)]
        show (w4.setCell ⟨n + 1, 0, none⟩ (.bool false)).heap[s0]? = _
        rw [(((Mod.refl [n + 1] w4).set (p := ⟨n + 1, 0, none⟩) (.inl (by simp)) (.bool false)).block s0 hs04 (by simp; omega))]
        exact hs4
      · rw [heapPn (by omega)]
        show (w4.setCell ⟨n + 1, 0, none⟩ (.bool false)).heap[n + 1]? = _
        rw [heapSet gB]
        rfl
      · rw [heapPn (by omega)]
        exact heapSetNe gD (by omega)
      · exact ((hm04.set (p := ⟨n + 1, 0, none⟩) (.inr (by simp only; omega)) _).drewN m).put (.inr (by omega)) _
    · have hok1 := hok ⟨by omega, by omega⟩
      simp (maxSteps := 1000000) (disch := first | omega | (simp only [sizeAlloc, sizeDrew, sizeSet, sizePut] <;> omega) | fail) only [GS, TT_eq, TTl, Nat.reduceAdd, Nat.reduceMul, Nat.reduceSub, Nat.reduceDiv, Nat.reduceMod, Nat.reducePow, Nat.reduceEqDiff, ↓reduceIte, reduceCtorEq, Int.reduceToNat, Int.reduceAdd, Int.reduceSub, Int.reduceMul, cT, gv, hlo, hhi]
      refine ⟨by kernel_rfl, fun m => ?_⟩
      refine ⟨_, g4, ?_, .inl ⟨rfl, ⟨?_, ?_, ?_, ?_, heapPe g4, hok1, (hm04.drewN m).put (.inr (by omega)) _⟩⟩⟩
      · rw [heapPn (by omega)]; exact hs4
      · rw [heapPn (by omega)]; exact gA
      · rw [heapPn (by omega)]; exact gB
      · rw [heapPn (by omega)]; exact gC
      · rw [heapPn (by omega)]; exact gD
end Go.Proofs.YthnlmmkhehphiaaGreatDoor
