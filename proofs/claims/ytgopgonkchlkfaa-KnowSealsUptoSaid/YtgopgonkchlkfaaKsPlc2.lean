/-
  term.places: the places are yielded (walk).
-/
import Derived.Test.YtgopgonkchlkfaaKsPlc1
set_option linter.unusedSimpArgs false
set_option linter.unusedVariables false
set_option maxRecDepth 20000
namespace Go.Proofs.Ytgopgonkchlkfaa
open Go Go.Wk Go.RowKit
attribute [local irreducible] go Hold
open Go.Lib
theorem made62 (z : Value) (hz : z.cells = #[.int .i64 0, .int .i64 0, .int .i64 0]) (n : Nat) : madeCells z.cells (n * 3) = ((List.replicate n ((0, 0, 0) : PL)).flatMap plC).toArray := by
  rw [hz]
  apply Array.ext'
  have hl : ((List.replicate n ((0, 0, 0) : PL)).flatMap plC) = List.replicate (n * 3) (.int .i64 0) := by
    induction n with
    | zero => rfl
    | succ n ih => rw [List.replicate_succ, List.flatMap_cons, ih, Nat.add_mul, Nat.one_mul, Nat.add_comm, ← List.replicate_append_replicate]; rfl
  rw [hl]
  apply List.ext_getElem
  · simp [madeCells]
  · intro i h1 h2
    simp only [madeCells, List.getElem_replicate]
    simp
    have : i % 3 < 3 := Nat.mod_lt _ (by omega)
    generalize i % 3 = j at this
    match j, this with
    | 0, _ => rfl
    | 1, _ => rfl
    | 2, _ => rfl
theorem flat_set3 (xs : List PL) (k : Nat) (hk : k < xs.length) (p : PL) : ((((xs.flatMap plC).toArray.setIfInBounds (k * 3) (.int .i64 p.1)).setIfInBounds (k * 3 + 1) (.int .i64 p.2.1)).setIfInBounds (k * 3 + 2) (.int .i64 p.2.2)) = ((xs.set k p).flatMap plC).toArray := by
  simp only [List.setIfInBounds_toArray]
  congr 1
  have key : ∀ (xs : List PL) (k : Nat), k < xs.length → (((xs.flatMap plC).set (k * 3) (.int .i64 p.1)).set (k * 3 + 1) (.int .i64 p.2.1)).set (k * 3 + 2) (.int .i64 p.2.2) = (xs.set k p).flatMap plC := by
    intro xs
    induction xs with
    | nil => intro k hk; simp at hk
    | cons x xs ih =>
      intro k hk
      cases k with
      | zero => simp [plC]
      | succ k =>
        simp only [List.flatMap_cons, List.set_cons_succ]
        rw [← ih k (by simpa using hk)]
        rw [show plC x = [.int .i64 x.1, .int .i64 x.2.1, .int .i64 x.2.2] from rfl]
        simp only [List.cons_append, List.nil_append, Nat.add_mul, Nat.one_mul]
        rw [show k * 3 + 3 + 1 = (k * 3 + 1) + 3 from by omega, show k * 3 + 3 + 2 = (k * 3 + 2) + 3 from by omega]
        rfl
  exact key xs k hk
/-- Blocks of places stay. -/
structure Kept (w w' : World) : Prop where
  size : w.heap.size ≤ w'.heap.size
  kp : ∀ (k : Nat) (cs : Array Value) (fr : Nat × Nat), w.heap[k]? = some (.cells cs 141 fr) → w'.heap[k]? = some (.cells cs 141 fr)
theorem Kept.of {Z : List Nat} {w w' : World} (h : Mod Z w w') (hz : ∀ x ∈ Z, ∀ (cs : Array Value) (fr : Nat × Nat), w.heap[x]? ≠ some (.cells cs 141 fr)) : Kept w w' :=
  ⟨h.size, fun k cs fr hk => h.get hk (fun hx => hz k hx cs fr hk)⟩
theorem atGet {xs : List PL} {k : Nat} (h : k < xs.length) {j : Nat} (hj : j < 3) : (xs.flatMap plC).toArray[k * 3 + j]? = (plC xs[k])[j]? := by
  rw [List.getElem?_toArray, flat_get plC 3 plC_len xs k h j hj]
set_option maxRecDepth 20000 in
set_option maxHeartbeats 8000000 in
theorem places1_cps (S : List UInt8) (h0 : checkS S = 0) (bx y : Nat) (w : World) (R : Ending → World → Prop) (hbx : w.heap[bx]? = some (.cells #[.string ⟨S.toArray⟩] 9 (0, 0)))
    (Inv : List PL → World → Prop) (hI : Inv (placesS S) w) (hInvM : ∀ r w w', Inv r w → Mod [] w w' → Inv r w')
    (hstep : ∀ (p : PL) r w, Inv (p :: r) w → yieldW Try.prog y #[.agg #[.int .i64 p.1, .int .i64 p.2.1, .int .i64 p.2.2]] w (fun u w' => (u = .bool true ∧ Inv r w' ∧ Kept w w') ∨ (u = .bool false ∧ R (.returned (.tuple #[])) w')) (fun _ _ => False))
    (hdone : ∀ w', Inv [] w' → R (.returned (.tuple #[])) w') :
    Calls Try.prog 122 #[.func (.yield y) #[] #[], .pointer (some ⟨bx, 0, none⟩)] w R := by
  obtain ⟨h1, h2, h3, h4⟩ := check0 h0
  have hS : S.length ≤ maxLen := by unfold maxLen; omega
  have hcnt := (walkS_cnt S 16 1 0 (by omega)).2
  have hok := told_ok S
  have c0 := cellOf (o := 0) hbx
  have hbl := ltOf hbx
  refine calls_go 4000 okT Try.func122 rfl (rs := []) rfl Try.ntmps122 (args := [.func (.yield y) #[] #[], .pointer (some ⟨bx, 0, none⟩)]) ?_
  simp (maxSteps := 1000000) (disch := first | omega | (simp only [sizeAlloc, sizeDrew, sizeSet, sizePut] <;> omega) | fail) only [GS, TT_eq, TTl, Nat.reduceAdd, Nat.reduceMul, Nat.reduceSub, Nat.reduceDiv, Nat.reduceMod, Nat.reducePow, Nat.reduceEqDiff, ↓reduceIte, reduceCtorEq, Int.reduceToNat, Int.reduceAdd, Int.reduceSub, Int.reduceMul, c0]
  have hT0 : TellQ w.heap.size w [] (w.alloc (.cells #[.slice none 0 0] 171)) := ⟨_, heapNew, World.ownsRow_nil _ _ _ _, (Mod.refl _ _).alloc _, by simp⟩
  generalize w.alloc (.cells #[.slice none 0 0] 171) = w1 at hT0 ⊢
  refine ⟨fok91, tWalk_cps S hS 123 #[.pointer (some ⟨w.heap.size, 0, none⟩)] fok123 (TellQ w.heap.size w) (fun _ _ _ h hM => h.mod hM) (walkS S 16 1 0).2.2 (fun l a b d w' R' hLt _ _ _ ht hR' => TellQ.step (Nat.le_refl _) (by omega) l a b d w' R' hLt ht hR') 16 1 0 [] _ _ (by omega) (by omega) ⟨[], by simp⟩ hT0 fun w2 hT2 => ?_⟩
  unfold wkE
  rw [if_pos h1, List.nil_append] at *
  refine .inl ⟨_, rfl, hold_ops okT (rs := []) rfl ?_⟩
  obtain ⟨sv, k2, k3, k4, k5⟩ := hT2
  have c2 := cellOf (o := 0) (k4.get hbx (by simp))
  simp (maxSteps := 1000000) (disch := first | omega | (simp only [sizeAlloc, sizeDrew, sizeSet, sizePut] <;> omega) | fail) only [GS, TT_eq, TTl, Nat.reduceAdd, Nat.reduceMul, Nat.reduceSub, Nat.reduceDiv, Nat.reduceMod, Nat.reducePow, Nat.reduceEqDiff, ↓reduceIte, reduceCtorEq, Int.reduceToNat, Int.reduceAdd, Int.reduceSub, Int.reduceMul, c2]
  refine hold_makeSlice okT rfl rfl rfl rfl rfl (Nat.le_refl _) (by simp only; omega) (by omega) fun z hz => hold_ops okT (rs := []) rfl ?_
  have hA := heapNew (w := w2) (o := .cells (madeCells z.cells (S.length * 3)) 141)
  rw [made62 z hz] at hA
  have hM3 := k4.alloc (.cells (madeCells z.cells (S.length * 3)) 141)
  have hM23 := (Mod.refl [] w2).alloc (.cells (madeCells z.cells (S.length * 3)) 141)
  simp only [made62 z hz] at hM3 hM23 ⊢
  have hz3 : w2.heap.size < (w2.alloc (.cells ((List.replicate S.length ((0, 0, 0) : PL)).flatMap plC).toArray 141)).heap.size := by simp
  generalize hA' : w2.heap.size = A at hA hz3 ⊢
  generalize w2.alloc (.cells ((List.replicate S.length ((0, 0, 0) : PL)).flatMap plC).toArray 141) = w3 at hA hM3 hM23 hz3 ⊢
  have k23 := hM23.get k2 (by simp)
  have c3 := cellOf (o := 0) k23
  have hrd : Rd w3 3 sv (walkS S 16 1 0).2.2.length ((walkS S 16 1 0).2.2.flatMap plC) := (Rd.own k3).mod hM23 (by simp)
  have hblk : ∀ b, blkOf sv = some b → b < A := by
    intro b hb
    have := (k3.lt b (by rw [← hb]; unfold blkOf; rcases k3.2 with ⟨rfl, _⟩ | ⟨g, cap, cur, rfl, _⟩ <;> rfl)).2
    omega
  obtain ⟨sa, sc, rfl⟩ := hrd.slice
  simp (maxSteps := 1000000) (disch := first | omega | (simp only [sizeAlloc, sizeDrew, sizeSet, sizePut] <;> omega) | fail) only [GS, TT_eq, TTl, Nat.reduceAdd, Nat.reduceMul, Nat.reduceSub, Nat.reduceDiv, Nat.reduceMod, Nat.reducePow, Nat.reduceEqDiff, ↓reduceIte, reduceCtorEq, Int.reduceToNat, Int.reduceAdd, Int.reduceSub, Int.reduceMul, c3]
  generalize hL : (walkS S 16 1 0).2.2 = L at hok hcnt hrd hblk ⊢
  refine hold_loop okT (rs := []) rfl [17] [6, 18, 19, 20, 21, 22, 23, 24, 25, 26] (fun vs w' => ∃ k : Nat, k ≤ L.length ∧ vs = [.int .i64 k] ∧ Mod [A] w3 w' ∧ w'.heap[A]? = some (.cells ((atS S (L.take k)).flatMap plC).toArray 141 (0, 0))) (fun vs _ => match vs with | [.int _ i] => L.length - i.toNat | _ => 0) (by kernel_rfl) ⟨0, by omega, rfl, Mod.refl _ _, hA⟩ ?_
  rintro vs w4 J ⟨k, hk, rfl, hM4, hA4⟩
  by_cases hlt : k < L.length
  · obtain ⟨b1, o1, c1, e1, _, g1⟩ := (hrd.mod hM4 (fun b hb hx => by have := hblk b hb; simp only [List.mem_cons, List.not_mem_nil, or_false] at hx; omega)).at (by omega) (by omega)
    have hpk := hok _ (List.getElem_mem hlt)
    have hfl := fun j hj => flat_get plC 3 plC_len L k hlt j hj
    obtain ⟨p, hpd⟩ : ∃ p, L[k] = p := ⟨_, rfl⟩
    rw [hpd] at hpk
    simp only [hpd] at hfl
    have d1 : w4.cell? ⟨b1, o1 + k * 3, none⟩ = some (.int .i64 p.1) := by rw [← g1 (k * 3) _ (hfl 0 (by omega))]
    have d2 : w4.cell? ⟨b1, o1 + k * 3 + 1, none⟩ = some (.int .i64 p.2.1) := by rw [← g1 (k * 3 + 1) _ (hfl 1 (by omega))]; rfl
    have d3 : w4.cell? ⟨b1, o1 + k * 3 + 2, none⟩ = some (.int .i64 p.2.2) := by rw [← g1 (k * 3 + 2) _ (hfl 2 (by omega))]; rfl
    rw [Value.slice.injEq] at e1
    obtain ⟨rfl, -, -⟩ := e1
    obtain ⟨pa, pb, pd⟩ := p
    simp only at d1 d2 d3
    obtain ⟨q1, q2, q3, q4, q5⟩ := hpk
    simp only at q1 q2 q3 q4 q5
    have hal := atS_len S (L.take k)
    have hpl : pa < (atS S (L.take k)).length := by omega
    obtain ⟨x, hcA⟩ : ∃ x : PL, ∀ j, j < 3 → ((atS S (L.take k)).flatMap plC).toArray[pa * 3 + j]? = (plC x)[j]? := ⟨_, fun j hj => atGet hpl hj⟩
    have a1 : w4.cell? ⟨A, pa * 3, none⟩ = some (.int .i64 x.1) := by rw [cellOf hA4, ← Nat.add_zero (pa * 3)]; exact hcA 0 (by omega)
    have a2 : w4.cell? ⟨A, pa * 3 + 1, none⟩ = some (.int .i64 x.2.1) := by rw [cellOf hA4]; exact hcA 1 (by omega)
    have a3 : w4.cell? ⟨A, pa * 3 + 2, none⟩ = some (.int .i64 x.2.2) := by rw [cellOf hA4]; exact hcA 2 (by omega)
    have z1 := frozenOf (o := pa * 3) hA4
    have z2 := frozenOf (o := pa * 3 + 1) hA4
    have z3 := frozenOf (o := pa * 3 + 2) hA4
    have hAl := ltOf hA4
    simp (maxSteps := 1000000) (disch := first | omega | (simp only [sizeAlloc, sizeDrew, sizeSet, sizePut] <;> omega) | fail) only [GS, TT_eq, TTl, Nat.reduceAdd, Nat.reduceMul, Nat.reduceSub, Nat.reduceDiv, Nat.reduceMod, Nat.reducePow, Nat.reduceEqDiff, ↓reduceIte, reduceCtorEq, Int.reduceToNat, Int.reduceAdd, Int.reduceSub, Int.reduceMul, d1, d2, d3, a1, a2, a3, z1, z2, z3]
    have hz4 := hM4.size
    have hA5 := heapAlloc (o' := .cells #[.int .i64 0, .int .i64 0, .int .i64 0] 141) hA4
    have hne : A ≠ w4.heap.size := by omega
    have hA6 := heapSet (o := pa * 3 + 2) (v := .int .i64 pd) (heapSet (o := pa * 3 + 1) (v := .int .i64 pb) (heapSet (o := pa * 3) (v := .int .i64 pa) (heapSetNe (j := 2) (u := .int .i64 pd) (heapSetNe (j := 1) (u := .int .i64 pb) (heapSetNe (j := 0) (u := .int .i64 pa) hA5 hne) hne) hne)))
    have hfs := flat_set3 (atS S (L.take k)) pa hpl (pa, pb, pd)
    simp only at hfs
    rw [hfs, ← atS_snoc S (L.take k) (pa, pb, pd), ← hpd, ← List.take_succ_eq_append_getElem hlt] at hA6
    refine ⟨⟨k + 1, by omega, rfl, ?_, hA6⟩, by omega⟩
    exact ((((((hM4.alloc _).set (p := ⟨w4.heap.size, 0, none⟩) (.inr hz4) _).set (p := ⟨w4.heap.size, 1, none⟩) (.inr hz4) _).set (p := ⟨w4.heap.size, 2, none⟩) (.inr hz4) _).set (p := ⟨A, _, none⟩) (.inl (by simp)) _).set (p := ⟨A, _, none⟩) (.inl (by simp)) _).set (p := ⟨A, _, none⟩) (.inl (by simp)) _
  · have e : k = L.length := by omega
    subst e
    rw [List.take_length] at hA4
    have hp : placesS S = (atS S L).filter fun p => decide (0 < p.2.2) := by unfold placesS; rw [hL]
    have hM04 : Mod [] w w4 := hM3.trans hM4 (fun x hx => .inr (by simp only [List.mem_cons, List.not_mem_nil, or_false] at hx; have := k4.size; omega))
    have hI4 := hInvM _ _ _ hI hM04
    rw [hp] at hI4
    have hal := atS_len S L
    generalize atS S L = atl at hA4 hI4 hal
    simp (maxSteps := 1000000) (disch := first | omega | (simp only [sizeAlloc, sizeDrew, sizeSet, sizePut] <;> omega) | fail) only [GS, TT_eq, TTl, Nat.reduceAdd, Nat.reduceMul, Nat.reduceSub, Nat.reduceDiv, Nat.reduceMod, Nat.reducePow, Nat.reduceEqDiff, ↓reduceIte, reduceCtorEq, Int.reduceToNat, Int.reduceAdd, Int.reduceSub, Int.reduceMul]
    refine hold_loop okT (rs := []) rfl [29] [8, 30, 31, 32, 33, 34, 35, 36, 37, 38, 39, 40, 41, 42] (fun vs w' => ∃ k : Nat, k ≤ S.length ∧ vs = [.int .i64 k] ∧ Inv ((atl.drop k).filter fun p => decide (0 < p.2.2)) w' ∧ w'.heap[A]? = some (.cells (atl.flatMap plC).toArray 141 (0, 0))) (fun vs _ => match vs with | [.int _ i] => S.length - i.toNat | _ => 0) (by kernel_rfl) ⟨0, by omega, rfl, hI4, hA4⟩ ?_
    rintro vs w5 J5 ⟨k, hk, rfl, hI5, hA5⟩
    by_cases hlt : k < S.length
    · have hlt' : k < atl.length := by omega
      have hcA := fun j hj => atGet (xs := atl) hlt' (j := j) hj
      rw [List.drop_eq_getElem_cons hlt', List.filter_cons] at hI5
      generalize atl[k] = p at hcA hI5
      obtain ⟨pa, pb, pd⟩ := p
      have a1 : w5.cell? ⟨A, k * 3, none⟩ = some (.int .i64 pa) := by rw [cellOf hA5, ← Nat.add_zero (k * 3)]; exact hcA 0 (by omega)
      have a2 : w5.cell? ⟨A, k * 3 + 1, none⟩ = some (.int .i64 pb) := by rw [cellOf hA5]; exact hcA 1 (by omega)
      have a3 : w5.cell? ⟨A, k * 3 + 2, none⟩ = some (.int .i64 pd) := by rw [cellOf hA5]; exact hcA 2 (by omega)
      simp only at hI5
      have hAl := ltOf hA5
      have hMx := (((((Mod.refl [] w5).alloc (.cells #[.int .i64 0, .int .i64 0, .int .i64 0] 141)).set (p := ⟨w5.heap.size, 0, none⟩) (.inr (Nat.le_refl _)) (.int .i64 pa)).set (p := ⟨w5.heap.size, 1, none⟩) (.inr (Nat.le_refl _)) (.int .i64 pb)).set (p := ⟨w5.heap.size, 2, none⟩) (.inr (Nat.le_refl _)) (.int .i64 pd))
      by_cases hpd : 0 < pd
      · rw [if_pos (decide_eq_true hpd)] at hI5
        simp (maxSteps := 1000000) (disch := first | omega | (simp only [sizeAlloc, sizeDrew, sizeSet, sizePut] <;> omega) | fail) only [GS, TT_eq, TTl, Nat.reduceAdd, Nat.reduceMul, Nat.reduceSub, Nat.reduceDiv, Nat.reduceMod, Nat.reducePow, Nat.reduceEqDiff, ↓reduceIte, reduceCtorEq, Int.reduceToNat, Int.reduceAdd, Int.reduceSub, Int.reduceMul, a1, a2, a3]
        refine yieldW_mono (hstep (pa, pb, pd) _ _ (hInvM _ _ _ hI5 hMx)) ?_ (fun _ _ h => h.elim)
        rintro u w6 (⟨rfl, hI6, hK⟩ | ⟨rfl, hR6⟩)
        · refine hold_ops okT (rs := []) rfl ?_
          simp (maxSteps := 1000000) (disch := first | omega | (simp only [sizeAlloc, sizeDrew, sizeSet, sizePut] <;> omega) | fail) only [GS, TT_eq, TTl, Nat.reduceAdd, Nat.reduceMul, Nat.reduceSub, Nat.reduceDiv, Nat.reduceMod, Nat.reducePow, Nat.reduceEqDiff, ↓reduceIte, reduceCtorEq, Int.reduceToNat, Int.reduceAdd, Int.reduceSub, Int.reduceMul]
          exact ⟨⟨k + 1, by omega, rfl, hI6, hK.kp _ _ _ (hMx.get hA5 (by simp))⟩, by omega⟩
        · refine hold_ops okT (rs := []) rfl ?_
          simp (maxSteps := 1000000) (disch := first | omega | (simp only [sizeAlloc, sizeDrew, sizeSet, sizePut] <;> omega) | fail) only [GS, TT_eq, TTl, Nat.reduceAdd, Nat.reduceMul, Nat.reduceSub, Nat.reduceDiv, Nat.reduceMod, Nat.reducePow, Nat.reduceEqDiff, ↓reduceIte, reduceCtorEq, Int.reduceToNat, Int.reduceAdd, Int.reduceSub, Int.reduceMul]
          exact hR6
      · rw [if_neg (by simpa using hpd)] at hI5
        simp (maxSteps := 1000000) (disch := first | omega | (simp only [sizeAlloc, sizeDrew, sizeSet, sizePut] <;> omega) | fail) only [GS, TT_eq, TTl, Nat.reduceAdd, Nat.reduceMul, Nat.reduceSub, Nat.reduceDiv, Nat.reduceMod, Nat.reducePow, Nat.reduceEqDiff, ↓reduceIte, reduceCtorEq, Int.reduceToNat, Int.reduceAdd, Int.reduceSub, Int.reduceMul, a1, a2, a3]
        exact ⟨⟨k + 1, by omega, rfl, hInvM _ _ _ hI5 hMx, hMx.get hA5 (by simp)⟩, by omega⟩
    · have e : k = S.length := by omega
      subst e
      rw [List.drop_eq_nil_of_le (by omega)] at hI5
      simp (maxSteps := 1000000) (disch := first | omega | (simp only [sizeAlloc, sizeDrew, sizeSet, sizePut] <;> omega) | fail) only [GS, TT_eq, TTl, Nat.reduceAdd, Nat.reduceMul, Nat.reduceSub, Nat.reduceDiv, Nat.reduceMod, Nat.reducePow, Nat.reduceEqDiff, ↓reduceIte, reduceCtorEq, Int.reduceToNat, Int.reduceAdd, Int.reduceSub, Int.reduceMul]
      exact hdone _ hI5
end Go.Proofs.Ytgopgonkchlkfaa
