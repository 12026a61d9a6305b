/-
  wire.ReadTxn, wire.ReadMembers (walks).
-/
import Derived.Test.YthnlmmkhehphiaaGreatDoorBtW2
import Derived.Test.YthnlmmkhehphiaaGreatDoorBtW1
set_option linter.unusedSimpArgs false
set_option linter.unusedVariables false
set_option maxRecDepth 20000
namespace Go.Proofs.YthnlmmkhehphiaaGreatDoor
open Go Go.Wk Go.RowKit
attribute [local irreducible] go Hold
open Go.Lib
set_option maxRecDepth 20000 in
set_option maxHeartbeats 8000000 in
theorem wRdTxn1_cps (S : List UInt8) (hS : S.length ≤ maxLen) (b p : Nat) (w : World) (hb : w.heap[b]? = some (.cells #[.string ⟨S.toArray⟩] 9 (0, 0))) (hp : w.heap[p]? = some (.cells #[.int .i64 0, .int .i64 0, .int .i64 0] 23 (0, 0))) (R : Ending → World → Prop)
    (h1 : ∀ x w', untxO S = some x → w'.heap[p]? = some (.cells (txC x).toArray 23 (0, 0)) → Mod [p] w w' → R (.returned (.tuple #[])) w') (h0 : untxO S = none → ∀ w', Mod [] w w' → R (.panicked wnoneV) w') :
    Calls Tryz.prog 117 #[.pointer (some ⟨b, 0, none⟩), .pointer (some ⟨p, 0, none⟩)] w R := by
  refine calls_go 4000 okT Tryz.func117 rfl (rs := []) rfl Tryz.ntmps117 (args := [.pointer (some ⟨b, 0, none⟩), .pointer (some ⟨p, 0, none⟩)]) ?_
  have cb := fun o => cellOf (o := o) hb
  simp (maxSteps := 1000000) (disch := first | omega | (simp only [sizeAlloc, sizeDrew, sizeSet, sizePut] <;> omega) | fail) only [GS, TT_eq, TTl, Nat.reduceAdd, Nat.reduceMul, Nat.reduceSub, Nat.reduceDiv, Nat.reduceMod, Nat.reducePow, Nat.reduceEqDiff, ↓reduceIte, reduceCtorEq, Int.reduceToNat, Int.reduceAdd, Int.reduceSub, Int.reduceMul, cb]
  refine ⟨fok118, wUntxn_cps S hS _ _ (fun x w1 hx hM => .inl ⟨_, rfl, hold_ops okT (rs := []) rfl ?_⟩) (fun hx w1 hM => .inr ⟨_, rfl, hold_ex okT (rs := []) rfl ?_⟩)⟩
  · obtain ⟨x1, x2, x3⟩ := x
    have hp1 := hM.get hp (by simp)
    have cp := fun o => cellOf (o := o) hp1
    have xp := fun o => frozenOf (o := o) hp1
    unfold txV
    simp (maxSteps := 1000000) (disch := first | omega | (simp only [sizeAlloc, sizeDrew, sizeSet, sizePut] <;> omega) | fail) only [GS, TT_eq, TTl, Nat.reduceAdd, Nat.reduceMul, Nat.reduceSub, Nat.reduceDiv, Nat.reduceMod, Nat.reducePow, Nat.reduceEqDiff, ↓reduceIte, reduceCtorEq, Int.reduceToNat, Int.reduceAdd, Int.reduceSub, Int.reduceMul, cp, xp]
    exact h1 _ _ hx (st3 hp1) ((((hM.mono (by simp)).set (p := ⟨p, 0, none⟩) (.inl (by simp)) _).set (p := ⟨p, 1, none⟩) (.inl (by simp)) _).set (p := ⟨p, 2, none⟩) (.inl (by simp)) _)
  · simp (maxSteps := 1000000) (disch := first | omega | (simp only [sizeAlloc, sizeDrew, sizeSet, sizePut] <;> omega) | fail) only [GS, TT_eq, TTl, Nat.reduceAdd, Nat.reduceMul, Nat.reduceSub, Nat.reduceDiv, Nat.reduceMod, Nat.reducePow, Nat.reduceEqDiff, ↓reduceIte, reduceCtorEq, Int.reduceToNat, Int.reduceAdd, Int.reduceSub, Int.reduceMul]
    exact h0 hx _ hM
set_option maxRecDepth 20000 in
set_option maxHeartbeats 8000000 in
theorem wReadTxn_cps (S : List UInt8) (hS : S.length ≤ maxLen) (w : World) (R : Ending → World → Prop)
    (h1 : ∀ x w', untxO S = some x → Mod [] w w' → R (.returned (.tuple #[txV x, .bool true])) w') (h0 : untxO S = none → ∀ w', Mod [] w w' → R (.returned (.tuple #[txV (0, 0, 0), .bool false])) w') :
    Calls Tryz.prog 80 #[.string ⟨S.toArray⟩] w R := by
  refine calls_go 4000 okT Tryz.func80 rfl (rs := [.cell 2 23, .tmp 3]) rfl Tryz.ntmps80 (args := [.string ⟨S.toArray⟩]) ?_
  simp (maxSteps := 1000000) (disch := first | omega | (simp only [sizeAlloc, sizeDrew, sizeSet, sizePut] <;> omega) | fail) only [GS, TT_eq, TTl, Nat.reduceAdd, Nat.reduceMul, Nat.reduceSub, Nat.reduceDiv, Nat.reduceMod, Nat.reducePow, Nat.reduceEqDiff, ↓reduceIte, reduceCtorEq, Int.reduceToNat, Int.reduceAdd, Int.reduceSub, Int.reduceMul]
  have hb := heapAlloc (o' := .cells #[.int .i64 0, .int .i64 0, .int .i64 0] 23) (heapNew (w := w) (o := .cells #[.string ⟨S.toArray⟩] 9))
  have hp := heapNew (w := w.alloc (.cells #[.string ⟨S.toArray⟩] 9)) (o := .cells #[.int .i64 0, .int .i64 0, .int .i64 0] 23)
  have hM0 := ((Mod.refl [] w).alloc (.cells #[.string ⟨S.toArray⟩] 9)).alloc (.cells #[.int .i64 0, .int .i64 0, .int .i64 0] 23)
  rw [sizeAlloc] at hp
  generalize hW : (w.alloc (.cells #[.string ⟨S.toArray⟩] 9)).alloc (.cells #[.int .i64 0, .int .i64 0, .int .i64 0] 23) = W at hb hp hM0 ⊢
  generalize hn : w.heap.size = n at *
  have hpl := (Array.getElem?_eq_some_iff.1 hp).1
  have hb2 := heapAlloc (o' := .cells #[.bool false] 4) hb
  have hp2 := heapAlloc (o' := .cells #[.bool false] 4) hp
  have hq2 := heapNew (w := W) (o := .cells #[.bool false] 4)
  have hM2 := (Mod.refl [] W).alloc (.cells #[.bool false] 4)
  have hge : w.heap.size ≤ n + 1 := by omega
  refine ⟨fok116, wTry_cps 117 #[.pointer (some ⟨n, 0, none⟩), .pointer (some ⟨n + 1, 0, none⟩)] fok117 W _ (fun w' => ∃ x, untxO S = some x ∧ w'.heap[n + 1]? = some (.cells (txC x).toArray 23 (0, 0)) ∧ Mod [] w w') (fun w' => untxO S = none ∧ w'.heap[n + 1]? = some (.cells #[.int .i64 0, .int .i64 0, .int .i64 0] 23 (0, 0)) ∧ Mod [] w w') ?_ ?_ ?_⟩
  · refine wRdTxn1_cps S hS n (n + 1) _ hb2 hp2 _ ?_ ?_
    · intro x w' hx hh hM
      refine ⟨.inl ⟨rfl, x, hx, hh, (hM0.trans hM2 (by simp)).trans hM (fun y hy => .inr (by simp at hy; omega))⟩, hM.get hq2 (by simp; omega), ?_⟩
      have := hM.size
      rw [sizeAlloc] at this
      omega
    · intro hx w' hM
      refine ⟨.inr ⟨rfl, hx, hM.get hp2 (by simp), hM0.trans (hM2.trans hM (by simp)) (by simp)⟩, hM.get hq2 (by simp), ?_⟩
      have := hM.size
      rw [sizeAlloc] at this
      omega
  · rintro w1 w2 ⟨x, hx, hh, hM1⟩ hM12
    refine .inl ⟨_, rfl, hold_ops okT (rs := [.cell 2 23, .tmp 3]) rfl ?_⟩
    obtain ⟨x1, x2, x3⟩ := x
    have hh2 := hM12.get hh (by simp; omega)
    have hM02 : Mod [] w w2 := hM1.trans hM12 (fun y hy => .inr (by simp at hy; omega))
    unfold txC at hh2
    simp only at hh2
    have c2 := fun o => cellOf (o := o) hh2
    have x2' := fun o => frozenOf (o := o) hh2
    simp (maxSteps := 1000000) (disch := first | omega | (simp only [sizeAlloc, sizeDrew, sizeSet, sizePut] <;> omega) | fail) only [GS, TT_eq, TTl, Nat.reduceAdd, Nat.reduceMul, Nat.reduceSub, Nat.reduceDiv, Nat.reduceMod, Nat.reducePow, Nat.reduceEqDiff, ↓reduceIte, reduceCtorEq, Int.reduceToNat, Int.reduceAdd, Int.reduceSub, Int.reduceMul, c2, x2']
    have hhE : (((w2.setCell ⟨n + 1, 0, none⟩ (.int .i64 x1)).setCell ⟨n + 1, 1, none⟩ (.int .i64 x2)).setCell ⟨n + 1, 2, none⟩ (.int .i64 x3)).heap[n + 1]? = _ := st3 hh2
    have hME : Mod [] w (((w2.setCell ⟨n + 1, 0, none⟩ (.int .i64 x1)).setCell ⟨n + 1, 1, none⟩ (.int .i64 x2)).setCell ⟨n + 1, 2, none⟩ (.int .i64 x3)) := ((hM02.set (p := ⟨n + 1, 0, none⟩) (.inr hge) _).set (p := ⟨n + 1, 1, none⟩) (.inr hge) _).set (p := ⟨n + 1, 2, none⟩) (.inr hge) _
    revert hhE hME
    generalize ((w2.setCell ⟨n + 1, 0, none⟩ (.int .i64 x1)).setCell ⟨n + 1, 1, none⟩ (.int .i64 x2)).setCell ⟨n + 1, 2, none⟩ (.int .i64 x3) = wE
    intro hhE hME
    have cE := fun o => cellOf (o := o) hhE
    simp (maxSteps := 1000000) (disch := first | omega | (simp only [sizeAlloc, sizeDrew, sizeSet, sizePut] <;> omega) | fail) only [GS, TT_eq, TTl, Nat.reduceAdd, Nat.reduceMul, Nat.reduceSub, Nat.reduceDiv, Nat.reduceMod, Nat.reducePow, Nat.reduceEqDiff, ↓reduceIte, reduceCtorEq, Int.reduceToNat, Int.reduceAdd, Int.reduceSub, Int.reduceMul, loadW]
    exact ⟨_, cE 0, _, cE 1, _, cE 2, h1 _ _ hx hME⟩
  · rintro w1 w2 ⟨hx, hh, hM1⟩ hM12
    refine .inl ⟨_, rfl, hold_ops okT (rs := [.cell 2 23, .tmp 3]) rfl ?_⟩
    have hh2 := hM12.get hh (by simp; omega)
    have hM02 : Mod [] w w2 := hM1.trans hM12 (fun y hy => .inr (by simp at hy; omega))
    have c2 := fun o => cellOf (o := o) hh2
    have x2' := fun o => frozenOf (o := o) hh2
    simp (maxSteps := 1000000) (disch := first | omega | (simp only [sizeAlloc, sizeDrew, sizeSet, sizePut] <;> omega) | fail) only [GS, TT_eq, TTl, Nat.reduceAdd, Nat.reduceMul, Nat.reduceSub, Nat.reduceDiv, Nat.reduceMod, Nat.reducePow, Nat.reduceEqDiff, ↓reduceIte, reduceCtorEq, Int.reduceToNat, Int.reduceAdd, Int.reduceSub, Int.reduceMul, c2, x2']
    have hhE : (((w2.setCell ⟨n + 1, 0, none⟩ (.int .i64 0)).setCell ⟨n + 1, 1, none⟩ (.int .i64 0)).setCell ⟨n + 1, 2, none⟩ (.int .i64 0)).heap[n + 1]? = _ := st3 hh2
    have hME : Mod [] w (((w2.setCell ⟨n + 1, 0, none⟩ (.int .i64 0)).setCell ⟨n + 1, 1, none⟩ (.int .i64 0)).setCell ⟨n + 1, 2, none⟩ (.int .i64 0)) := ((hM02.set (p := ⟨n + 1, 0, none⟩) (.inr hge) _).set (p := ⟨n + 1, 1, none⟩) (.inr hge) _).set (p := ⟨n + 1, 2, none⟩) (.inr hge) _
    revert hhE hME
    generalize ((w2.setCell ⟨n + 1, 0, none⟩ (.int .i64 0)).setCell ⟨n + 1, 1, none⟩ (.int .i64 0)).setCell ⟨n + 1, 2, none⟩ (.int .i64 0) = wE
    intro hhE hME
    have cE := fun o => cellOf (o := o) hhE
    simp (maxSteps := 1000000) (disch := first | omega | (simp only [sizeAlloc, sizeDrew, sizeSet, sizePut] <;> omega) | fail) only [GS, TT_eq, TTl, Nat.reduceAdd, Nat.reduceMul, Nat.reduceSub, Nat.reduceDiv, Nat.reduceMod, Nat.reducePow, Nat.reduceEqDiff, ↓reduceIte, reduceCtorEq, Int.reduceToNat, Int.reduceAdd, Int.reduceSub, Int.reduceMul, loadW]
    exact ⟨_, cE 0, _, cE 1, _, cE 2, h0 hx _ hME⟩
set_option maxRecDepth 20000 in
set_option maxHeartbeats 8000000 in
theorem wRdMbs1_cps (x : Tx) (S : List UInt8) (hS : S.length ≤ maxLen) (a b p : Nat) (w : World) (ha : w.heap[a]? = some (.cells (txC x).toArray 23 (0, 0))) (hb : w.heap[b]? = some (.cells #[.string ⟨S.toArray⟩] 9 (0, 0))) (hp : w.heap[p]? = some (.cells #[.slice none 0 0] 24 (0, 0))) (R : Ending → World → Prop)
    (h1 : ∀ l sv w', unmbS x.1 S = some l → w'.heap[p]? = some (.cells #[sv] 24 (0, 0)) → w'.ownsRow w.heap.size 65 2 sv l.length (l.flatMap mbC) → Mod [p] w w' → R (.returned (.tuple #[])) w') (h0 : unmbS x.1 S = none → ∀ w', Mod [] w w' → R (.panicked wnoneV) w') :
    Calls Tryz.prog 119 #[.pointer (some ⟨a, 0, none⟩), .pointer (some ⟨b, 0, none⟩), .pointer (some ⟨p, 0, none⟩)] w R := by
  have hU := wUnmembers_cps x S hS
  obtain ⟨x1, x2, x3⟩ := x
  unfold txC at ha
  unfold txV at hU
  simp only at ha hU h1 h0
  have hpl := (Array.getElem?_eq_some_iff.1 hp).1
  refine calls_go 4000 okT Tryz.func119 rfl (rs := []) rfl Tryz.ntmps119 (args := [.pointer (some ⟨a, 0, none⟩), .pointer (some ⟨b, 0, none⟩), .pointer (some ⟨p, 0, none⟩)]) ?_
  have ca := fun o => cellOf (o := o) ha
  have cb := fun o => cellOf (o := o) hb
  simp (maxSteps := 1000000) (disch := first | omega | (simp only [sizeAlloc, sizeDrew, sizeSet, sizePut] <;> omega) | fail) only [GS, TT_eq, TTl, Nat.reduceAdd, Nat.reduceMul, Nat.reduceSub, Nat.reduceDiv, Nat.reduceMod, Nat.reducePow, Nat.reduceEqDiff, ↓reduceIte, reduceCtorEq, Int.reduceToNat, Int.reduceAdd, Int.reduceSub, Int.reduceMul, ca, cb]
  refine ⟨fok120, hU _ _ (fun l sv w1 hl hown hM => .inl ⟨_, rfl, hold_ops okT (rs := []) rfl ?_⟩) (fun hx w1 hM => .inr ⟨_, rfl, hold_ex okT (rs := []) rfl ?_⟩)⟩
  · have hp1 := hM.get hp (by simp)
    have cp := fun o => cellOf (o := o) hp1
    have xp := fun o => frozenOf (o := o) hp1
    have hsv := ownsRow_one hown
    simp (maxSteps := 1000000) (disch := first | omega | (simp only [sizeAlloc, sizeDrew, sizeSet, sizePut] <;> omega) | fail) only [GS, TT_eq, TTl, Nat.reduceAdd, Nat.reduceMul, Nat.reduceSub, Nat.reduceDiv, Nat.reduceMod, Nat.reducePow, Nat.reduceEqDiff, ↓reduceIte, reduceCtorEq, Int.reduceToNat, Int.reduceAdd, Int.reduceSub, Int.reduceMul, cp, xp, cellsL_one hsv, hsv]
    exact h1 _ sv _ hl (by rw [heapSet hp1]; rfl) (ownsRow_mod (S := [p]) hown ((Mod.refl [p] w1).set (p := ⟨p, 0, none⟩) (.inl (by simp)) sv) (by simp; omega)) ((hM.mono (by simp)).set (p := ⟨p, 0, none⟩) (.inl (by simp)) _)
  · simp (maxSteps := 1000000) (disch := first | omega | (simp only [sizeAlloc, sizeDrew, sizeSet, sizePut] <;> omega) | fail) only [GS, TT_eq, TTl, Nat.reduceAdd, Nat.reduceMul, Nat.reduceSub, Nat.reduceDiv, Nat.reduceMod, Nat.reducePow, Nat.reduceEqDiff, ↓reduceIte, reduceCtorEq, Int.reduceToNat, Int.reduceAdd, Int.reduceSub, Int.reduceMul]
    exact h0 hx _ hM
set_option maxRecDepth 20000 in
set_option maxHeartbeats 8000000 in
theorem wReadMembers_cps (x : Tx) (S : List UInt8) (hS : S.length ≤ maxLen) (w : World) (R : Ending → World → Prop)
    (h1 : ∀ l sv w', unmbS x.1 S = some l → w'.ownsRow w.heap.size 65 2 sv l.length (l.flatMap mbC) → Mod [] w w' → R (.returned (.tuple #[sv, .bool true])) w') (h0 : unmbS x.1 S = none → ∀ w', Mod [] w w' → R (.returned (.tuple #[.slice none 0 0, .bool false])) w') :
    Calls Tryz.prog 81 #[txV x, .string ⟨S.toArray⟩] w R := by
  have hR1 := wRdMbs1_cps x S hS
  obtain ⟨x1, x2, x3⟩ := x
  unfold txV
  unfold txC at hR1
  simp only at hR1 h1 h0 ⊢
  refine calls_go 4000 okT Tryz.func81 rfl (rs := [.cell 4 24, .tmp 5]) rfl Tryz.ntmps81 (args := [.agg #[.int .i64 x1, .int .i64 x2, .int .i64 x3], .string ⟨S.toArray⟩]) ?_
  simp (maxSteps := 1000000) (disch := first | omega | (simp only [sizeAlloc, sizeDrew, sizeSet, sizePut] <;> omega) | fail) only [GS, TT_eq, TTl, Nat.reduceAdd, Nat.reduceMul, Nat.reduceSub, Nat.reduceDiv, Nat.reduceMod, Nat.reducePow, Nat.reduceEqDiff, ↓reduceIte, reduceCtorEq, Int.reduceToNat, Int.reduceAdd, Int.reduceSub, Int.reduceMul]
  have ha := heapAlloc (o' := .cells #[.slice none 0 0] 24) (heapAlloc (o' := .cells #[.string ⟨S.toArray⟩] 9) (heapNew (w := w) (o := .cells #[.int .i64 x1, .int .i64 x2, .int .i64 x3] 23)))
  have hb := heapAlloc (o' := .cells #[.slice none 0 0] 24) (heapNew (w := w.alloc (.cells #[.int .i64 x1, .int .i64 x2, .int .i64 x3] 23)) (o := .cells #[.string ⟨S.toArray⟩] 9))
  have hp := heapNew (w := (w.alloc (.cells #[.int .i64 x1, .int .i64 x2, .int .i64 x3] 23)).alloc (.cells #[.string ⟨S.toArray⟩] 9)) (o := .cells #[.slice none 0 0] 24)
  have hM0 := (((Mod.refl [] w).alloc (.cells #[.int .i64 x1, .int .i64 x2, .int .i64 x3] 23)).alloc (.cells #[.string ⟨S.toArray⟩] 9)).alloc (.cells #[.slice none 0 0] 24)
  rw [sizeAlloc] at hb
  rw [sizeAlloc, sizeAlloc] at hp
  generalize hW : ((w.alloc (.cells #[.int .i64 x1, .int .i64 x2, .int .i64 x3] 23)).alloc (.cells #[.string ⟨S.toArray⟩] 9)).alloc (.cells #[.slice none 0 0] 24) = W at ha hb hp hM0 ⊢
  generalize hn : w.heap.size = n at *
  have hpl := (Array.getElem?_eq_some_iff.1 hp).1
  have ha2 := heapAlloc (o' := .cells #[.bool false] 4) ha
  have hb2 := heapAlloc (o' := .cells #[.bool false] 4) hb
  have hp2 := heapAlloc (o' := .cells #[.bool false] 4) hp
  have hq2 := heapNew (w := W) (o := .cells #[.bool false] 4)
  have hM2 := (Mod.refl [] W).alloc (.cells #[.bool false] 4)
  have hge : w.heap.size ≤ n + 1 + 1 := by omega
  refine ⟨fok116, wTry_cps 119 #[.pointer (some ⟨n, 0, none⟩), .pointer (some ⟨n + 1, 0, none⟩), .pointer (some ⟨n + 1 + 1, 0, none⟩)] fok119 W _ (fun w' => ∃ l sv, unmbS x1 S = some l ∧ w'.heap[n + 1 + 1]? = some (.cells #[sv] 24 (0, 0)) ∧ w'.ownsRow (W.heap.size + 1) 65 2 sv l.length (l.flatMap mbC) ∧ Mod [] w w') (fun w' => unmbS x1 S = none ∧ w'.heap[n + 1 + 1]? = some (.cells #[.slice none 0 0] 24 (0, 0)) ∧ Mod [] w w') ?_ ?_ ?_⟩
  · refine hR1 n (n + 1) (n + 1 + 1) _ ha2 hb2 hp2 _ ?_ ?_
    · intro l sv w' hx hh hown hM
      refine ⟨.inl ⟨rfl, l, sv, hx, hh, by rw [sizeAlloc] at hown; exact hown, (hM0.trans hM2 (by simp)).trans hM (fun y hy => .inr (by simp at hy; omega))⟩, hM.get hq2 (by simp; omega), ?_⟩
      have := hM.size
      rw [sizeAlloc] at this
      omega
    · intro hx w' hM
      refine ⟨.inr ⟨rfl, hx, hM.get hp2 (by simp), hM0.trans (hM2.trans hM (by simp)) (by simp)⟩, hM.get hq2 (by simp), ?_⟩
      have := hM.size
      rw [sizeAlloc] at this
      omega
  · rintro w1 w2 ⟨l, sv, hx, hh, hown, hM1⟩ hM12
    refine .inl ⟨_, rfl, hold_ops okT (rs := [.cell 4 24, .tmp 5]) rfl ?_⟩
    have hh2 := hM12.get hh (by simp; omega)
    have hown2 := ownsRow_mod hown hM12 (by simp)
    have hM02 : Mod [] w w2 := hM1.trans hM12 (fun y hy => .inr (by simp at hy; omega))
    have c2 := fun o => cellOf (o := o) hh2
    have x2' := fun o => frozenOf (o := o) hh2
    have hsv := ownsRow_one hown2
    simp (maxSteps := 1000000) (disch := first | omega | (simp only [sizeAlloc, sizeDrew, sizeSet, sizePut] <;> omega) | fail) only [GS, TT_eq, TTl, Nat.reduceAdd, Nat.reduceMul, Nat.reduceSub, Nat.reduceDiv, Nat.reduceMod, Nat.reducePow, Nat.reduceEqDiff, ↓reduceIte, reduceCtorEq, Int.reduceToNat, Int.reduceAdd, Int.reduceSub, Int.reduceMul, c2, x2', cellsL_one hsv, hsv]
    have hhE : (w2.setCell ⟨n + 1 + 1, 0, none⟩ sv).heap[n + 1 + 1]? = some (.cells #[sv] 24 (0, 0)) := by rw [heapSet hh2]; rfl
    have hME : Mod [] w (w2.setCell ⟨n + 1 + 1, 0, none⟩ sv) := hM02.set (p := ⟨n + 1 + 1, 0, none⟩) (.inr hge) _
    have hoE := ownsRow_base (base' := n) (ownsRow_mod (S := [n + 1 + 1]) hown2 ((Mod.refl [n + 1 + 1] w2).set (p := ⟨n + 1 + 1, 0, none⟩) (.inl (by simp)) sv) (by simp; omega)) (by omega)
    revert hhE hME hoE
    generalize w2.setCell ⟨n + 1 + 1, 0, none⟩ sv = wE
    intro hhE hME hoE
    have cE := fun o => cellOf (o := o) hhE
    simp (maxSteps := 1000000) (disch := first | omega | (simp only [sizeAlloc, sizeDrew, sizeSet, sizePut] <;> omega) | fail) only [GS, TT_eq, TTl, Nat.reduceAdd, Nat.reduceMul, Nat.reduceSub, Nat.reduceDiv, Nat.reduceMod, Nat.reducePow, Nat.reduceEqDiff, ↓reduceIte, reduceCtorEq, Int.reduceToNat, Int.reduceAdd, Int.reduceSub, Int.reduceMul, loadW]
    exact ⟨_, cE 0, h1 _ sv _ hx hoE hME⟩
  · rintro w1 w2 ⟨hx, hh, hM1⟩ hM12
    refine .inl ⟨_, rfl, hold_ops okT (rs := [.cell 4 24, .tmp 5]) rfl ?_⟩
    have hh2 := hM12.get hh (by simp; omega)
    have hM02 : Mod [] w w2 := hM1.trans hM12 (fun y hy => .inr (by simp at hy; omega))
    have c2 := fun o => cellOf (o := o) hh2
    have x2' := fun o => frozenOf (o := o) hh2
    simp (maxSteps := 1000000) (disch := first | omega | (simp only [sizeAlloc, sizeDrew, sizeSet, sizePut] <;> omega) | fail) only [GS, TT_eq, TTl, Nat.reduceAdd, Nat.reduceMul, Nat.reduceSub, Nat.reduceDiv, Nat.reduceMod, Nat.reducePow, Nat.reduceEqDiff, ↓reduceIte, reduceCtorEq, Int.reduceToNat, Int.reduceAdd, Int.reduceSub, Int.reduceMul, c2, x2']
    have hhE : (w2.setCell ⟨n + 1 + 1, 0, none⟩ (.slice none 0 0)).heap[n + 1 + 1]? = some (.cells #[.slice none 0 0] 24 (0, 0)) := by rw [heapSet hh2]; rfl
    have hME : Mod [] w (w2.setCell ⟨n + 1 + 1, 0, none⟩ (.slice none 0 0)) := hM02.set (p := ⟨n + 1 + 1, 0, none⟩) (.inr hge) _
    revert hhE hME
    generalize w2.setCell ⟨n + 1 + 1, 0, none⟩ (.slice none 0 0) = wE
    intro hhE hME
    have cE := fun o => cellOf (o := o) hhE
    simp (maxSteps := 1000000) (disch := first | omega | (simp only [sizeAlloc, sizeDrew, sizeSet, sizePut] <;> omega) | fail) only [GS, TT_eq, TTl, Nat.reduceAdd, Nat.reduceMul, Nat.reduceSub, Nat.reduceDiv, Nat.reduceMod, Nat.reducePow, Nat.reduceEqDiff, ↓reduceIte, reduceCtorEq, Int.reduceToNat, Int.reduceAdd, Int.reduceSub, Int.reduceMul, loadW]
    exact ⟨_, cE 0, h0 hx _ hME⟩
end Go.Proofs.YthnlmmkhehphiaaGreatDoor
