/-
  ballot: where a member stands (a range over a function, left by a break); Check; the reference's May of a ballot (walks).
-/
import Derived.Test.YthnlmmkhehphiaaGreatDoorEaW2
import Derived.Test.YthnlmmkhehphiaaGreatDoorEaRefC
set_option linter.unusedSimpArgs false
set_option linter.unusedVariables false
set_option maxRecDepth 20000
namespace Go.Proofs.YthnlmmkhehphiaaGreatDoor
open Go Go.Wk Go.RowKit
attribute [local irreducible] go Hold
open Go.Lib
theorem bPlaces_cps (sa : Value) (os : sa.oneCell' = true) (w : World) (R : Ending → World → Prop)
    (hR : R (.returned (.func (.func 142) #[] #[.pointer (some ⟨w.heap.size, 0, none⟩)])) (w.alloc (.cells #[sa] 24))) :
    Calls Tryz.prog 115 #[sa] w R := by
  refine calls_go 4000 okT Tryz.func115 rfl (rs := [.tmp 2]) rfl Tryz.ntmps115 (args := [sa]) ?_
  simp (maxSteps := 1000000) (disch := first | omega | (simp only [sizeAlloc, sizeDrew, sizeSet, sizePut] <;> omega) | fail) only [GS, TT_eq, TTl, Nat.reduceAdd, Nat.reduceMul, Nat.reduceSub, Nat.reduceDiv, Nat.reduceMod, Nat.reducePow, Nat.reduceEqDiff, ↓reduceIte, reduceCtorEq, Int.reduceToNat, Int.reduceAdd, Int.reduceSub, Int.reduceMul, os, cellsL_one os]
  exact hR
theorem box2 {w W : World} {t : Nat} {a0 a1 x0 x1 : Value} (h : ((w.alloc (.cells #[a0, a1] t)).setCell ⟨w.heap.size, 0, none⟩ x0).setCell ⟨w.heap.size, 1, none⟩ x1 = W) : W.heap[w.heap.size]? = some (.cells #[x0, x1] t (0, 0)) ∧ Mod [] w W := by
  subst h
  refine ⟨?_, (((Mod.refl [] w).alloc (.cells #[a0, a1] t)).set (p := ⟨w.heap.size, 0, none⟩) (.inr (Nat.le_refl _)) x0).set (p := ⟨w.heap.size, 1, none⟩) (.inr (Nat.le_refl _)) x1⟩
  rw [heapSet (heapSet heapNew)]
  rfl
set_option maxRecDepth 20000 in
set_option maxHeartbeats 4000000 in
theorem bPlaces1_cps (bx l : Nat) (pa : Option Addr) (ca : Nat) (mbs : List Mb) (w : World) (R : Ending → World → Prop) (hx : mbs.length ≤ 1000000) (Inv : Nat → World → Prop) (Out : World → Prop) (h0 : Inv 0 w)
    (hm : ∀ j w1 w2, Inv j w1 → Mod [] w1 w2 → Inv j w2)
    (hrd : ∀ j w1, Inv j w1 → Rd w1 2 (.slice pa mbs.length ca) mbs.length (mbs.flatMap mbC) ∧ w1.heap[bx]? = some (.cells #[.slice pa mbs.length ca] 24 (0, 0)))
    (hdone : ∀ w1, Inv mbs.length w1 → R (.returned (.tuple #[])) w1) (hout : ∀ w1, Out w1 → R (.returned (.tuple #[])) w1)
    (hstep : ∀ j (hj : j < mbs.length) w1, Inv j w1 → yieldW Tryz.prog l #[.int .i64 j, .int .i64 mbs[j].1] w1 (fun u w' => (u = .bool true ∧ Inv (j + 1) w') ∨ (u = .bool false ∧ Out w')) (fun _ _ => False)) :
    Calls Tryz.prog 142 #[.func (.yield l) #[] #[], .pointer (some ⟨bx, 0, none⟩)] w R := by
  have cb := fun o => cellOf (o := o) (hrd _ _ h0).2
  refine calls_go 4000 okT Tryz.func142 rfl (rs := []) rfl Tryz.ntmps142 (args := [.func (.yield l) #[] #[], .pointer (some ⟨bx, 0, none⟩)]) ?_
  simp (maxSteps := 1000000) (disch := first | omega | (simp only [sizeAlloc, sizeDrew, sizeSet, sizePut] <;> omega) | fail) only [GS, TT_eq, TTl, Nat.reduceAdd, Nat.reduceMul, Nat.reduceSub, Nat.reduceDiv, Nat.reduceMod, Nat.reducePow, Nat.reduceEqDiff, ↓reduceIte, reduceCtorEq, Int.reduceToNat, Int.reduceAdd, Int.reduceSub, Int.reduceMul, cb]
  refine hold_loop okT (rs := []) rfl [7] [3, 4, 8, 9, 10, 11, 12, 13, 14, 15, 16, 17, 18] (fun vs w' => ∃ k : Nat, k ≤ mbs.length ∧ vs = [.int .i64 k] ∧ Inv k w') (fun vs _ => match vs with | [.int _ i] => mbs.length - i.toNat | _ => 0) (by kernel_rfl) ⟨0, by omega, rfl, h0⟩ ?_
  rintro vs w1 J ⟨k, hk, rfl, hI⟩
  by_cases hlt : k < mbs.length
  rotate_left
  · have e : k = mbs.length := by omega
    subst e
    simp (maxSteps := 1000000) (disch := first | omega | (simp only [sizeAlloc, sizeDrew, sizeSet, sizePut] <;> omega) | fail) only [GS, TT_eq, TTl, Nat.reduceAdd, Nat.reduceMul, Nat.reduceSub, Nat.reduceDiv, Nat.reduceMod, Nat.reducePow, Nat.reduceEqDiff, ↓reduceIte, reduceCtorEq, Int.reduceToNat, Int.reduceAdd, Int.reduceSub, Int.reduceMul]
    exact hdone _ hI
  obtain ⟨b1, o1, c1, e1, _, g1⟩ := (hrd _ _ hI).1.at (by omega) (by omega)
  rw [Value.slice.injEq] at e1
  obtain ⟨rfl, -, -⟩ := e1
  have hfl := fun j hj => flat_get mbC 2 mbC_len mbs k hlt j hj
  have hst := fun w1 h => hstep k hlt w1 h
  generalize mbs[k] = m at hfl hst
  have d0 : w1.cell? ⟨b1, o1 + k * 2, none⟩ = some (.int .i64 m.1) := by rw [← g1 (k * 2) _ (hfl 0 (by omega))]
  have d1 : w1.cell? ⟨b1, o1 + k * 2 + 1, none⟩ = some (.string ⟨m.2.toArray⟩) := by rw [← g1 (k * 2 + 1) _ (hfl 1 (by omega))]; rfl
  simp (maxSteps := 1000000) (disch := first | omega | (simp only [sizeAlloc, sizeDrew, sizeSet, sizePut] <;> omega) | fail) only [GS, TT_eq, TTl, Nat.reduceAdd, Nat.reduceMul, Nat.reduceSub, Nat.reduceDiv, Nat.reduceMod, Nat.reducePow, Nat.reduceEqDiff, ↓reduceIte, reduceCtorEq, Int.reduceToNat, Int.reduceAdd, Int.reduceSub, Int.reduceMul, d0, d1]
  generalize hW : ((w1.alloc (.cells #[.int .i64 0, .string ⟨#[]⟩] 65)).setCell ⟨w1.heap.size, 0, none⟩ (.int .i64 m.1)).setCell ⟨w1.heap.size, 1, none⟩ (.string ⟨m.2.toArray⟩) = w2
  obtain ⟨-, hM2⟩ := box2 hW
  clear hW
  refine yieldW_mono (hst _ (hm _ _ _ hI hM2)) ?_ (fun _ _ h => h.elim)
  rintro u w3 (⟨rfl, hI3⟩ | ⟨rfl, hO⟩)
  · refine hold_ops okT (rs := []) rfl ?_
    simp (maxSteps := 1000000) (disch := first | omega | (simp only [sizeAlloc, sizeDrew, sizeSet, sizePut] <;> omega) | fail) only [GS, TT_eq, TTl, Nat.reduceAdd, Nat.reduceMul, Nat.reduceSub, Nat.reduceDiv, Nat.reduceMod, Nat.reducePow, Nat.reduceEqDiff, ↓reduceIte, reduceCtorEq, Int.reduceToNat, Int.reduceAdd, Int.reduceSub, Int.reduceMul]
    exact ⟨⟨k + 1, by omega, rfl, hI3⟩, by omega⟩
  · refine hold_ops okT (rs := []) rfl ?_
    simp (maxSteps := 1000000) (disch := first | omega | (simp only [sizeAlloc, sizeDrew, sizeSet, sizePut] <;> omega) | fail) only [GS, TT_eq, TTl, Nat.reduceAdd, Nat.reduceMul, Nat.reduceSub, Nat.reduceDiv, Nat.reduceMod, Nat.reducePow, Nat.reduceEqDiff, ↓reduceIte, reduceCtorEq, Int.reduceToNat, Int.reduceAdd, Int.reduceSub, Int.reduceMul]
    exact hout _ hO
theorem fst3 {w W : World} {a b : Value} (h : ((w.alloc (.cells #[a] 3)).alloc (.cells #[.int .i64 0] 3)).setCell ⟨w.heap.size + 1, 0, none⟩ b = W) : W.heap[w.heap.size]? = some (.cells #[a] 3 (0, 0)) ∧ W.heap[w.heap.size + 1]? = some (.cells #[b] 3 (0, 0)) ∧ Mod [] w W ∧ W.heap.size = w.heap.size + 2 := by
  subst h
  have h1 := heapNew (w := w.alloc (.cells #[a] 3)) (o := .cells #[.int .i64 0] 3)
  rw [sizeAlloc] at h1
  refine ⟨heapSetNe (heapAlloc heapNew) (by omega), ?_, (((Mod.refl [] w).alloc _).alloc _).set (.inr (by simp only; omega)) _, by rw [sizeSet, sizeAlloc, sizeAlloc]⟩
  rw [heapSet h1]
  rfl
/-- The state of a search. -/
structure FndI (w : World) (n : Nat) (mbs : List Mb) (sv : Value) (org : Int) (lp : Loop) (j : Nat) (w' : World) : Prop where
  a : w'.heap[n]? = some (.cells #[.int .i64 org] 3 (0, 0))
  b : w'.heap[n + 1]? = some (.cells #[.int .i64 (-1)] 3 (0, 0))
  c : w'.heap[n + 2]? = some (.cells #[sv] 24 (0, 0))
  d : w'.heap[n + 3]? = some (.deferred (some []))
  e : w'.heap[n + 4]? = some (.loop lp)
  no : ∀ m ∈ mbs.take j, m.1 ≠ org
  m : Mod [] w w'
structure FndO (w : World) (n : Nat) (mbs : List Mb) (org : Int) (lp : Loop) (w' : World) : Prop where
  at_ : ∃ k, ∃ h : k < mbs.length, mbs[k].1 = org ∧ w'.heap[n + 1]? = some (.cells #[.int .i64 (k : Nat)] 3 (0, 0))
  d : w'.heap[n + 3]? = some (.deferred (some []))
  e : w'.heap[n + 4]? = some (.loop { lp with state := .done, pending := some (.exit 0) })
  m : Mod [] w w'
set_option maxRecDepth 20000 in
set_option maxHeartbeats 8000000 in
theorem bFind_cps (sa : Value) (mbs : List Mb) (org : Int) (w : World) (R : Ending → World → Prop) (hx : mbs.length ≤ 1000000) (ha : Rd w 2 sa mbs.length (mbs.flatMap mbC))
    (h1 : ∀ k w', (hk : k < mbs.length) → mbs[k].1 = org → Mod [] w w' → R (.returned (.int .i64 (k : Nat))) w') (h0 : (∀ m ∈ mbs, m.1 ≠ org) → ∀ w', Mod [] w w' → R (.returned (.int .i64 (-1))) w') :
    Calls Tryz.prog 73 #[sa, .int .i64 org] w R := by
  obtain ⟨pa, ca, rfl⟩ := ha.slice
  refine calls_go 4000 okT Tryz.func73 rfl (rs := [.tmp 4]) rfl Tryz.ntmps73 (args := [.slice pa mbs.length ca, .int .i64 org]) ?_
  simp (maxSteps := 1000000) (disch := first | omega | (simp only [sizeAlloc, sizeDrew, sizeSet, sizePut] <;> omega) | fail) only [GS, TT_eq, TTl, Nat.reduceAdd, Nat.reduceMul, Nat.reduceSub, Nat.reduceDiv, Nat.reduceMod, Nat.reducePow, Nat.reduceEqDiff, ↓reduceIte, reduceCtorEq, Int.reduceToNat, Int.reduceAdd, Int.reduceSub, Int.reduceMul]
  refine hold_scope rfl (hold_code okT (rs := [.tmp 4]) rfl ?_)
  simp (maxSteps := 1000000) (disch := first | omega | (simp only [sizeAlloc, sizeDrew, sizeSet, sizePut] <;> omega) | fail) only [GS, TT_eq, TTl, Nat.reduceAdd, Nat.reduceMul, Nat.reduceSub, Nat.reduceDiv, Nat.reduceMod, Nat.reducePow, Nat.reduceEqDiff, ↓reduceIte, reduceCtorEq, Int.reduceToNat, Int.reduceAdd, Int.reduceSub, Int.reduceMul]
  generalize hW : ((w.alloc (.cells #[.int .i64 org] 3)).alloc (.cells #[.int .i64 0] 3)).setCell ⟨w.heap.size + 1, 0, none⟩ (.int .i64 (-1)) = w1
  obtain ⟨hA, hB, hM1, hs1⟩ := fst3 hW
  clear hW
  refine ⟨fok115, bPlaces_cps _ rfl _ _ (.inl ⟨_, rfl, hold_ops okT (rs := [.tmp 4]) rfl ?_⟩)⟩
  simp (maxSteps := 1000000) (disch := first | omega | (simp only [sizeAlloc, sizeDrew, sizeSet, sizePut] <;> omega) | fail) only [GS, TT_eq, TTl, Nat.reduceAdd, Nat.reduceMul, Nat.reduceSub, Nat.reduceDiv, Nat.reduceMod, Nat.reducePow, Nat.reduceEqDiff, ↓reduceIte, reduceCtorEq, Int.reduceToNat, Int.reduceAdd, Int.reduceSub, Int.reduceMul]
  refine hold_rangeFunc rfl fok142 fun fid => ?_
  simp only [sizeAlloc, List.toList_toArray, List.nil_append, List.cons_append, hs1]
  generalize hn : w.heap.size = n at *
  refine bPlaces1_cps (n + 2) _ pa ca mbs _ _ hx (FndI w n mbs (.slice pa mbs.length ca) org _) (fun w' => ∃ lp, FndO w n mbs org lp w') ⟨?_, ?_, ?_, ?_, heapAe (by simp only [sizeAlloc, hs1]), by simp, ?_⟩ ?_ ?_ ?_ ?_ ?_
  · exact heapAlloc (heapAlloc (heapAlloc hA))
  · exact heapAlloc (heapAlloc (heapAlloc hB))
  · have := heapNew (w := w1) (o := .cells #[.slice pa mbs.length ca] 24)
    rw [hs1] at this
    exact heapAlloc (heapAlloc this)
  · refine heapAlloc ?_
    have := heapNew (w := w1.alloc (.cells #[.slice pa mbs.length ca] 24)) (o := .deferred (some []))
    rw [sizeAlloc, hs1] at this
    exact this
  · exact ((hM1.alloc _).alloc _).alloc _
  · intro j w2 w3 h hM
    exact ⟨hM.get h.a (by simp), hM.get h.b (by simp), hM.get h.c (by simp), hM.get h.d (by simp), hM.get h.e (by simp), h.no, h.m.trans hM (by simp)⟩
  · intro j w2 h
    exact ⟨ha.mod h.m (by simp), h.c⟩
  · intro w2 h
    refine ⟨_, .normal, h.e, by simp, rfl, hold_ex okT (rs := [.tmp 4]) rfl ?_⟩
    generalize hW : w2.putObj _ _ = w3
    have hM3 : Mod [n + 4] w2 w3 := by rw [← hW]; exact (Mod.refl _ _).put (.inl (by simp)) _
    have cB := fun o => cellOf (o := o) (hM3.get h.b (by simp))
    have hno := h.no
    rw [List.take_length] at hno
    simp (maxSteps := 1000000) (disch := first | omega | (simp only [sizeAlloc, sizeDrew, sizeSet, sizePut] <;> omega) | fail) only [GS, TT_eq, TTl, Nat.reduceAdd, Nat.reduceMul, Nat.reduceSub, Nat.reduceDiv, Nat.reduceMod, Nat.reducePow, Nat.reduceEqDiff, ↓reduceIte, reduceCtorEq, Int.reduceToNat, Int.reduceAdd, Int.reduceSub, Int.reduceMul, cB]
    refine ⟨_, rfl, hM3.get h.d (by simp), ?_⟩
    generalize hW4 : w3.putObj _ _ = w4
    have hM4 : Mod [n + 3] w3 w4 := by rw [← hW4]; exact (Mod.refl _ _).put (.inl (by simp)) _
    have hm04 := (h.m.trans hM3 (fun x hx => .inr (by simp at hx; omega))).trans hM4 (fun x hx => .inr (by simp at hx; omega))
    simp (maxSteps := 1000000) only [GS, TT_eq, TTl, Nat.reduceAdd, Nat.reduceMul, Nat.reduceSub, Nat.reduceDiv, Nat.reduceMod, Nat.reducePow, Nat.reduceEqDiff, ↓reduceIte, reduceCtorEq, Int.reduceToNat, Int.reduceAdd, Int.reduceSub, Int.reduceMul, leaveW]
    exact h0 hno _ hm04
  · rintro w2 ⟨lp, h⟩
    obtain ⟨k, hk, hko, hB2⟩ := h.at_
    refine ⟨_, .exit 0, h.e, by simp, rfl, hold_ex okT (rs := [.tmp 4]) rfl ?_⟩
    generalize hW : w2.putObj _ _ = w3
    have hM3 : Mod [n + 4] w2 w3 := by rw [← hW]; exact (Mod.refl _ _).put (.inl (by simp)) _
    have cB := fun o => cellOf (o := o) (hM3.get hB2 (by simp))
    simp (maxSteps := 1000000) (disch := first | omega | (simp only [sizeAlloc, sizeDrew, sizeSet, sizePut] <;> omega) | fail) only [GS, TT_eq, TTl, Nat.reduceAdd, Nat.reduceMul, Nat.reduceSub, Nat.reduceDiv, Nat.reduceMod, Nat.reducePow, Nat.reduceEqDiff, ↓reduceIte, reduceCtorEq, Int.reduceToNat, Int.reduceAdd, Int.reduceSub, Int.reduceMul, cB]
    refine ⟨_, rfl, hM3.get h.d (by simp), ?_⟩
    generalize hW4 : w3.putObj _ _ = w4
    have hM4 : Mod [n + 3] w3 w4 := by rw [← hW4]; exact (Mod.refl _ _).put (.inl (by simp)) _
    have hm04 := (h.m.trans hM3 (fun x hx => .inr (by simp at hx; omega))).trans hM4 (fun x hx => .inr (by simp at hx; omega))
    simp (maxSteps := 1000000) only [GS, TT_eq, TTl, Nat.reduceAdd, Nat.reduceMul, Nat.reduceSub, Nat.reduceDiv, Nat.reduceMod, Nat.reducePow, Nat.reduceEqDiff, ↓reduceIte, reduceCtorEq, Int.reduceToNat, Int.reduceAdd, Int.reduceSub, Int.reduceMul, leaveW]
    exact h1 k _ hk hko hm04
  · intro j hj w2 h
    refine yieldW_of (args := [.int .i64 j, .int .i64 mbs[j].1]) h.e rfl (hold_code okT (rs := []) rfl ?_)
    have htk := List.take_succ_eq_append_getElem hj
    have hat := fun (h : mbs[j].1 = org) => (⟨j, hj, h⟩ : ∃ k, ∃ h : k < mbs.length, mbs[k].1 = org)
    have hat2 : ∀ {P : Nat → Prop}, mbs[j].1 = org → P j → ∃ k, ∃ h : k < mbs.length, mbs[k].1 = org ∧ P k := fun h hp => ⟨j, hj, h, hp⟩
    clear hat
    generalize mbs[j] = mj at htk hat2 ⊢
    simp (maxSteps := 1000000) (disch := first | omega | (simp only [sizeAlloc, sizeDrew, sizeSet, sizePut] <;> omega) | fail) only [GS, TT_eq, TTl, Nat.reduceAdd, Nat.reduceMul, Nat.reduceSub, Nat.reduceDiv, Nat.reduceMod, Nat.reducePow, Nat.reduceEqDiff, ↓reduceIte, reduceCtorEq, Int.reduceToNat, Int.reduceAdd, Int.reduceSub, Int.reduceMul]
    refine ⟨rfl, rfl, _, h.e, rfl, hold_code okT (rs := []) rfl ?_⟩
    generalize hO : Obj.loop _ = o3
    generalize hW : w2.putObj _ o3 = w3
    have hM3 : Mod [n + 4] w2 w3 := by rw [← hW]; exact (Mod.refl _ _).put (.inl (by simp)) _
    have g3 : w3.heap[n + 4]? = some o3 := by rw [← hW]; exact heapPe h.e
    rw [← hO] at g3
    clear hO hW
    have gA := hM3.get h.a (by simp)
    have gB := hM3.get h.b (by simp)
    have gC := hM3.get h.c (by simp)
    have gD := hM3.get h.d (by simp)
    have cA := fun o => cellOf (o := o) gA
    have cB := fun o => cellOf (o := o) gB
    have xB := fun o => frozenOf (o := o) gB
    have hm03 := h.m.trans hM3 (fun x hx => .inr (by simp at hx; omega))
    by_cases he : mj.1 = org
    · simp (maxSteps := 1000000) (disch := first | omega | (simp only [sizeAlloc, sizeDrew, sizeSet, sizePut] <;> omega) | fail) only [GS, TT_eq, TTl, Nat.reduceAdd, Nat.reduceMul, Nat.reduceSub, Nat.reduceDiv, Nat.reduceMod, Nat.reducePow, Nat.reduceEqDiff, ↓reduceIte, reduceCtorEq, Int.reduceToNat, Int.reduceAdd, Int.reduceSub, Int.reduceMul, cA, cB, xB, he, eq_self]
      have hl4 := heapSetNe (b := n + 1) (j := 0) (u := .int .i64 (j : Int)) g3 (by omega)
      refine ⟨_, hl4, .inr ⟨rfl, _, ⟨hat2 he ?_, ?_, heapPe hl4, ?_⟩⟩⟩
      · rw [heapPn (by omega), heapSet gB]
        rfl
      · rw [heapPn (by omega)]
        exact heapSetNe gD (by omega)
      · exact (hm03.set (p := ⟨n + 1, 0, none⟩) (.inr (by simp only; omega)) _).put (.inr (by omega)) _
    · simp (maxSteps := 1000000) (disch := first | omega | (simp only [sizeAlloc, sizeDrew, sizeSet, sizePut] <;> omega) | fail) only [GS, TT_eq, TTl, Nat.reduceAdd, Nat.reduceMul, Nat.reduceSub, Nat.reduceDiv, Nat.reduceMod, Nat.reducePow, Nat.reduceEqDiff, ↓reduceIte, reduceCtorEq, Int.reduceToNat, Int.reduceAdd, Int.reduceSub, Int.reduceMul, cA, he]
      refine ⟨_, g3, .inl ⟨rfl, ⟨?_, ?_, ?_, ?_, heapPe g3, ?_, hm03.put (.inr (by omega)) _⟩⟩⟩
      · rw [heapPn (by omega)]; exact gA
      · rw [heapPn (by omega)]; exact gB
      · rw [heapPn (by omega)]; exact gC
      · rw [heapPn (by omega)]; exact gD
      · rw [htk]
        intro m hm
        rcases List.mem_append.1 hm with hm | hm
        · exact h.no m hm
        · rw [List.mem_singleton.1 hm]; exact he
end Go.Proofs.YthnlmmkhehphiaaGreatDoor
