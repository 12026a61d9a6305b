/-
  A step (walk).
-/
import Derived.Test.YtoladcdelaemoaaQdFrg2
set_option linter.unusedSimpArgs false
set_option linter.unusedVariables false
set_option maxRecDepth 20000
namespace Go.Proofs.Ytoladcdelaemoaa
open Go Go.Wk Go.RowKit
attribute [local irreducible] go Hold
open Go.Lib
/-- Several ways, one rest: of the frame here only the slots 'ls' are kept in mind, of those of 'ws' nothing. -/
theorem shareF {P : Program} {T : Tab} {V : Env} {R : Ending → World → Prop} {F : Exit → Act → World → Prop} {c : Cfg} {k : List KI} {fs : List Value} {w : World} (c2 : Cfg) (k2 : List KI) (ls ws : List Nat) (I : List Value → World → Prop)
    (h1 : (∀ vs w J, I vs w → Hold P T V R F c2 k2 (sets (havoc fs J ws) ls vs) w) → Hold P T V R F c k fs w) (h2 : ∀ vs w J, I vs w → Hold P T V R F c2 k2 (sets (havoc fs J ws) ls vs) w) : Hold P T V R F c k fs w := h1 h2
/-- What stands before the step is looked at. -/
structure KX (w0 w : World) (bx kb rp : Nat) (sv lv : Value) (seen l : List (List UInt8)) (x : Stp) (s : Nat) (bn bt bl is : Bool) (fv : Value) : Prop where
  fx : FX w bx rp sv lv seen l x
  kb : w.heap[kb]? = some (.cells #[.int .i64 s, .bool bn, .bool bt, .bool bl, fv] 128 (0, 0))
  nm : namesS x.d = (if is = true then some (s, bn, bt, bl) else none)
  fn : is = true → fv = .func (.func (fnOf x.d)) #[.pointer (some ⟨rp, 0, none⟩)] #[]
  md : Mod [] w0 w
theorem KX.mod {w0 w w' : World} {bx kb rp : Nat} {sv lv : Value} {seen l : List (List UInt8)} {x : Stp} {s : Nat} {bn bt bl is : Bool} {fv : Value} (h : KX w0 w bx kb rp sv lv seen l x s bn bt bl is fv) (hm : Mod [] w w') : KX w0 w' bx kb rp sv lv seen l x s bn bt bl is fv :=
  ⟨h.fx.mod hm, hm.get h.kb (by simp), h.nm, h.fn, h.md.trans hm (by simp)⟩
set_option maxRecDepth 20000 in
set_option maxHeartbeats 16000000 in
theorem step_cps (rp base : Nat) (sv lv : Value) (seen l : List (List UInt8)) (x : Stp) (w : World) (R : Ending → World → Prop) (h : RunOk w rp sv lv seen l) (hx : StpIn w x) (hown : w.ownsRow base 9 1 lv l.length (l.map strV)) (hb : rp < base) (hbw : base ≤ w.heap.size)
    (hR0 : mayS x l.length = true → (doS seen l x).2 = 0 → ∀ lv' w', w'.heap[rp]? = some (.cells #[sv, lv'] 107 (0, 0)) → w'.ownsRow base 9 1 lv' (l ++ [(doS seen l x).1]).length ((l ++ [(doS seen l x).1]).map strV) → Mod (rp :: lv.ownBlock.toList) w w' → R (.returned (.tuple #[])) w')
    (hRe : ∀ e, (mayS x l.length = false ∧ e = 2 ∨ mayS x l.length = true ∧ e = (doS seen l x).2 ∧ e ≠ 0) → ∀ w', Mod [] w w' → R (.panicked (wrF l.length e)) w') :
    Calls Try.prog 59 #[.pointer (some ⟨rp, 0, none⟩), .agg (stpC x).toArray] w R := by
  have hM := (Mod.refl [] w).alloc (.cells (stpC x).toArray 55)
  have F : FX (w.alloc (.cells (stpC x).toArray 55)) w.heap.size rp sv lv seen l x := ⟨h.mod hM, hx.mod hM (by simp), heapNew⟩
  have hz := ltOf h.hp
  obtain ⟨la, lc, rfl⟩ := h.rl.slice
  obtain ⟨sa, sc, rfl⟩ := h.rs.slice
  have hsl : ∃ a c, (Value.slice la l.length lc) = .slice a l.length c := ⟨_, _, rfl⟩
  obtain ⟨xo, xcap, hsv⟩ := hx.rd.slice
  have hd := hx.d
  refine calls_go 4000 okT Try.func59 rfl (rs := []) rfl Try.ntmps59 (args := [.pointer (some ⟨rp, 0, none⟩), .agg (stpC x).toArray]) ?_
  simp (maxSteps := 1000000) (disch := first | omega | (simp only [sizeAlloc, sizeDrew, sizeSet, sizePut] <;> omega) | fail) only [GS, TT_eq, TTl, Nat.reduceAdd, Nat.reduceMul, Nat.reduceSub, Nat.reduceDiv, Nat.reduceMod, Nat.reducePow, Nat.reduceEqDiff, ↓reduceIte, reduceCtorEq, Int.reduceToNat, Int.reduceAdd, Int.reduceSub, Int.reduceMul, st0]
  generalize hW1 : w.alloc _ = w1 at *
  generalize hB : w.heap.size = bx at *
  refine hold_stop (s' := some 2) ?_
  apply shareF (ls := [4, 5]) (ws := [10, 11, 12, 13, 14, 15, 16, 17]) (I := (fun vs w' => ∃ (kb s : Nat) (bn bt bl is : Bool) (fv : Value), vs = [.pointer (some ⟨kb, 0, none⟩), .bool is] ∧ KX w w' bx kb rp (.slice sa seen.length sc) (.slice la l.length lc) seen l x s bn bt bl is fv))
  case h1 =>
    intro hq
    have hM2 := hM.drewN 1
    have F2 := F.mod (Mod.drewN 1 (Mod.refl [] _))
    refine hold_draw2 okT (rs := []) rfl [0, 1, 0, 4, 15, 31, 63, 63, 0, 383, 1023] [0, 2, 3, 1, 4, 5, 6, 7, 8, 9, 10] [0, 2, 3, 8, 1, 4, 5, 6, 7, 9, 10] 3 1 8 (by kernel_rfl) (by kernel_rfl) (by kernel_rfl) ?_ ?_
    · generalize w1.drewN 1 = w2 at hM2 F2 ⊢
      simp (maxSteps := 1000000) (disch := first | omega | (simp only [sizeAlloc, sizeDrew, sizeSet, sizePut] <;> omega) | fail) only [GS, TT_eq, TTl, Nat.reduceAdd, Nat.reduceMul, Nat.reduceSub, Nat.reduceDiv, Nat.reduceMod, Nat.reducePow, Nat.reduceEqDiff, ↓reduceIte, reduceCtorEq, Int.reduceToNat, Int.reduceAdd, Int.reduceSub, Int.reduceMul, F2.cd]
      refine ⟨fok75, kinds_cps rp _ _ fun r w3 hm hr hN => .inl ⟨_, rfl, (F2.mod hN).cd, hold_dops okT (rs := []) rfl ?_⟩⟩
      have F3 := F2.mod hN
      obtain ⟨s, bn, bt, bl, is, fv, hlook, hnm, hfn, ho⟩ := look_kinds hm hd
      have hml := hm.lt
      have hM3 := hM2.trans hN (by simp)
      have hbl := ltOf F3.bx
      simp (maxSteps := 1000000) (disch := first | omega | (simp only [sizeAlloc, sizeDrew, sizeSet, sizePut] <;> omega) | fail) only [GS, TT_eq, TTl, Nat.reduceAdd, Nat.reduceMul, Nat.reduceSub, Nat.reduceDiv, Nat.reduceMod, Nat.reducePow, Nat.reduceEqDiff, ↓reduceIte, reduceCtorEq, Int.reduceToNat, Int.reduceAdd, Int.reduceSub, Int.reduceMul, hlook, F3.cd, cellsL_one ho, ho, lookAlloc, lookSet]
      have hMk : Mod [] w3 ((((((w3.alloc (.cells #[.int .i64 0, .bool false, .bool false, .bool false, .nilFunc] 128)).setCell ⟨w3.heap.size, 0, none⟩ (.int .i64 s)).setCell ⟨w3.heap.size, 1, none⟩ (.bool bn)).setCell ⟨w3.heap.size, 2, none⟩ (.bool bt)).setCell ⟨w3.heap.size, 3, none⟩ (.bool bl)).setCell ⟨w3.heap.size, 4, none⟩ fv) := ((((((Mod.refl [] w3).alloc _).set (p := ⟨w3.heap.size, 0, none⟩) (.inr (Nat.le_refl _)) _).set (p := ⟨w3.heap.size, 1, none⟩) (.inr (Nat.le_refl _)) _).set (p := ⟨w3.heap.size, 2, none⟩) (.inr (Nat.le_refl _)) _).set (p := ⟨w3.heap.size, 3, none⟩) (.inr (Nat.le_refl _)) _).set (p := ⟨w3.heap.size, 4, none⟩) (.inr (Nat.le_refl _)) _
      have hk := heapSet (o := 4) (v := fv) (heapSet (o := 3) (v := .bool bl) (heapSet (o := 2) (v := .bool bt) (heapSet (o := 1) (v := .bool bn) (heapSet (o := 0) (v := .int .i64 s) (heapNew (w := w3) (o := (.cells #[.int .i64 0, .bool false, .bool false, .bool false, .nilFunc] 128)))))))
      exact join _ [4, 5] [10, 11, 12, 13, 14, 15, 16, 17] (fun vs w' => ∃ (kb s : Nat) (bn bt bl is : Bool) (fv : Value), vs = [.pointer (some ⟨kb, 0, none⟩), .bool is] ∧ KX w w' bx kb rp (.slice sa seen.length sc) (.slice la l.length lc) seen l x s bn bt bl is fv) hq (by kernel_rfl) ⟨_, s, bn, bt, bl, is, fv, rfl, F3.mod hMk, hk, hnm, hfn, hM3.trans hMk (by simp)⟩
    · generalize w1.drewN 1 = w2 at hM2 F2 ⊢
      have hbl := ltOf F2.bx
      have F2' := F2.mod ((Mod.refl [] w2).alloc (.cells #[.int .i64 0, .bool false, .bool false, .bool false, .nilFunc] 128))
      have hM2' := hM2.alloc (.cells #[.int .i64 0, .bool false, .bool false, .bool false, .nilFunc] 128)
      have hk0 := heapNew (w := w2) (o := (.cells #[.int .i64 0, .bool false, .bool false, .bool false, .nilFunc] 128))
      simp (maxSteps := 1000000) (disch := first | omega | (simp only [sizeAlloc, sizeDrew, sizeSet, sizePut] <;> omega) | fail) only [GS, TT_eq, TTl, Nat.reduceAdd, Nat.reduceMul, Nat.reduceSub, Nat.reduceDiv, Nat.reduceMod, Nat.reducePow, Nat.reduceEqDiff, ↓reduceIte, reduceCtorEq, Int.reduceToNat, Int.reduceAdd, Int.reduceSub, Int.reduceMul, F2.cd]
      generalize w2.alloc (.cells #[.int .i64 0, .bool false, .bool false, .bool false, .nilFunc] 128) = w3 at *
      generalize w2.heap.size = kb at *
      refine ⟨fok75, kinds_cps rp _ _ fun r w4 hm hr hN => .inl ⟨_, rfl, (F2'.mod hN).cd, hold_dops okT (rs := []) rfl ?_⟩⟩
      have F3 := F2'.mod hN
      obtain ⟨s, bn, bt, bl, is, fv, hlook, hnm, hfn, ho⟩ := look_kinds hm hd
      have hml := hm.lt
      have hM3 := hM2'.trans hN (by simp)
      have hk1 := hN.get hk0 (by simp)
      have k0 := cellOf (o := 0) hk1
      have k1 := cellOf (o := 1) hk1
      have k2 := cellOf (o := 2) hk1
      have k3 := cellOf (o := 3) hk1
      have k4 := cellOf (o := 4) hk1
      have z0 := frozenOf (o := 0) hk1
      have z1 := frozenOf (o := 1) hk1
      have z2 := frozenOf (o := 2) hk1
      have z3 := frozenOf (o := 3) hk1
      have z4 := frozenOf (o := 4) hk1
      have hkl := ltOf hk0
      have hbk : bx < kb := by omega
      simp (maxSteps := 1000000) (disch := first | omega | (simp only [sizeAlloc, sizeDrew, sizeSet, sizePut] <;> omega) | fail) only [GS, TT_eq, TTl, Nat.reduceAdd, Nat.reduceMul, Nat.reduceSub, Nat.reduceDiv, Nat.reduceMod, Nat.reducePow, Nat.reduceEqDiff, ↓reduceIte, reduceCtorEq, Int.reduceToNat, Int.reduceAdd, Int.reduceSub, Int.reduceMul, hlook, F3.cd, cellsL_one ho, ho, lookAlloc, lookSet, k0, k1, k2, k3, k4, z0, z1, z2, z3, z4]
      have hMk : Mod [kb] w4 (((((w4.setCell ⟨kb, 0, none⟩ (.int .i64 s)).setCell ⟨kb, 1, none⟩ (.bool bn)).setCell ⟨kb, 2, none⟩ (.bool bt)).setCell ⟨kb, 3, none⟩ (.bool bl)).setCell ⟨kb, 4, none⟩ fv) := (((((Mod.refl [kb] w4).set (p := ⟨kb, 0, none⟩) (.inl (by simp)) _).set (p := ⟨kb, 1, none⟩) (.inl (by simp)) _).set (p := ⟨kb, 2, none⟩) (.inl (by simp)) _).set (p := ⟨kb, 3, none⟩) (.inl (by simp)) _).set (p := ⟨kb, 4, none⟩) (.inl (by simp)) _
      have hk := heapSet (o := 4) (v := fv) (heapSet (o := 3) (v := .bool bl) (heapSet (o := 2) (v := .bool bt) (heapSet (o := 1) (v := .bool bn) (heapSet (o := 0) (v := .int .i64 s) hk1))))
      have hgr : w.heap.size < kb := by rw [hB]; exact hbk
      have F5 : FX (((((w4.setCell ⟨kb, 0, none⟩ (.int .i64 s)).setCell ⟨kb, 1, none⟩ (.bool bn)).setCell ⟨kb, 2, none⟩ (.bool bt)).setCell ⟨kb, 3, none⟩ (.bool bl)).setCell ⟨kb, 4, none⟩ fv) bx rp (.slice sa seen.length sc) (.slice la l.length lc) seen l x := by
        have hMw := hM3.trans hMk (by intro y hy; simp only [List.mem_cons, List.not_mem_nil, or_false] at hy; omega)
        exact ⟨h.mod hMw, hx.mod hMw (by simp), hMk.get F3.bx (by simp; omega)⟩
      exact join _ [4, 5] [10, 11, 12, 13, 14, 15, 16, 17] (fun vs w' => ∃ (kb s : Nat) (bn bt bl is : Bool) (fv : Value), vs = [.pointer (some ⟨kb, 0, none⟩), .bool is] ∧ KX w w' bx kb rp (.slice sa seen.length sc) (.slice la l.length lc) seen l x s bn bt bl is fv) hq (by kernel_rfl) ⟨_, s, bn, bt, bl, is, fv, rfl, F5, hk, hnm, hfn, hM3.trans hMk (by intro y hy; simp only [List.mem_cons, List.not_mem_nil, or_false] at hy; omega)⟩
  case h2 =>
    rintro vs w2 J ⟨kb, s, bn, bt, bl, is, fv, rfl, X⟩
    clear hM F
    refine hold_stop (s' := some 3) ?_
    apply shareF (ls := []) (ws := [18, 19, 20, 21, 22, 23, 24, 25, 26, 27, 28, 29, 30, 31, 32, 33, 34, 35, 36, 37, 38, 39, 40, 41, 42, 43, 44, 45, 46, 47, 48]) (I := (fun vs w' => vs = [] ∧ ∃ (s : Nat) (bn bt bl : Bool) (fv : Value), KX w w' bx kb rp (.slice sa seen.length sc) (.slice la l.length lc) seen l x s bn bt bl true fv ∧ (bn || decide (x.n = 0)) = true ∧ (bt || decide (x.text = [])) = true ∧ (bl || decide (x.list = [])) = true))
    case h1 =>
      intro hq
      have c1 : w2.cell? ⟨kb, 1, none⟩ = some (.bool bn) := by rw [cellOf X.kb]; rfl
      have c2 : w2.cell? ⟨kb, 2, none⟩ = some (.bool bt) := by rw [cellOf X.kb]; rfl
      have c3 : w2.cell? ⟨kb, 3, none⟩ = some (.bool bl) := by rw [cellOf X.kb]; rfl
      have c6 : w2.cell? ⟨bx, 6, none⟩ = some (.slice xo x.list.length xcap) := by rw [← hsv]; exact X.fx.cl
      have hnm := X.nm
      refine hold_code okT (rs := []) rfl ?_
      cases is
      · simp (maxSteps := 1000000) (disch := first | omega | (simp only [sizeAlloc, sizeDrew, sizeSet, sizePut] <;> omega) | fail) only [GS, TT_eq, TTl, Nat.reduceAdd, Nat.reduceMul, Nat.reduceSub, Nat.reduceDiv, Nat.reduceMod, Nat.reducePow, Nat.reduceEqDiff, ↓reduceIte, reduceCtorEq, Int.reduceToNat, Int.reduceAdd, Int.reduceSub, Int.reduceMul, c1, c2, c3, c6, X.fx.cn, X.fx.ct]
        refine ⟨fok76, fMust_cps rp false 2 _ _ l.length _ _ X.fx.run.hp hsl (fun h => absurd h (by simp)) (fun _ => .inr ⟨_, rfl, hold_ex okT (rs := []) rfl ?_⟩)⟩
        simp (maxSteps := 1000000) (disch := first | omega | (simp only [sizeAlloc, sizeDrew, sizeSet, sizePut] <;> omega) | fail) only [GS, TT_eq, TTl, Nat.reduceAdd, Nat.reduceMul, Nat.reduceSub, Nat.reduceDiv, Nat.reduceMod, Nat.reducePow, Nat.reduceEqDiff, ↓reduceIte, reduceCtorEq, Int.reduceToNat, Int.reduceAdd, Int.reduceSub, Int.reduceMul]
        exact hRe 2 (.inl ⟨by unfold mayS; rw [hnm]; simp, rfl⟩) _ X.md
      · cases bn
        · by_cases h1 : x.n = 0
          · cases bt
            · by_cases h2 : x.text = []
              · have h2d : decide (x.text = []) = true := by simp [h2]
                cases bl
                · by_cases h3 : x.list.length = 0
                  · have h3' : x.list = [] := List.eq_nil_of_length_eq_zero h3
                    simp (maxSteps := 1000000) (disch := first | omega | (simp only [sizeAlloc, sizeDrew, sizeSet, sizePut] <;> omega) | fail) only [GS, TT_eq, TTl, Nat.reduceAdd, Nat.reduceMul, Nat.reduceSub, Nat.reduceDiv, Nat.reduceMod, Nat.reducePow, Nat.reduceEqDiff, ↓reduceIte, reduceCtorEq, Int.reduceToNat, Int.reduceAdd, Int.reduceSub, Int.reduceMul, c1, c2, c3, c6, X.fx.cn, X.fx.ct, h2d]
                    refine ⟨fok76, fMust_cps rp true 2 _ _ l.length _ _ X.fx.run.hp hsl (fun _ => .inl ⟨_, rfl, hold_ops okT (rs := []) rfl ?_⟩) (fun h => absurd h (by simp))⟩
                    simp (maxSteps := 1000000) (disch := first | omega | (simp only [sizeAlloc, sizeDrew, sizeSet, sizePut] <;> omega) | fail) only [GS, TT_eq, TTl, Nat.reduceAdd, Nat.reduceMul, Nat.reduceSub, Nat.reduceDiv, Nat.reduceMod, Nat.reducePow, Nat.reduceEqDiff, ↓reduceIte, reduceCtorEq, Int.reduceToNat, Int.reduceAdd, Int.reduceSub, Int.reduceMul]
                    exact join _ [] [18, 19, 20, 21, 22, 23, 24, 25, 26, 27, 28, 29, 30, 31, 32, 33, 34, 35, 36, 37, 38, 39, 40, 41, 42, 43, 44, 45, 46, 47, 48] (fun vs w' => vs = [] ∧ ∃ (s : Nat) (bn bt bl : Bool) (fv : Value), KX w w' bx kb rp (.slice sa seen.length sc) (.slice la l.length lc) seen l x s bn bt bl true fv ∧ (bn || decide (x.n = 0)) = true ∧ (bt || decide (x.text = [])) = true ∧ (bl || decide (x.list = [])) = true) hq (by kernel_rfl) ⟨rfl, s, _, _, _, fv, X, by simp [h1, h2, h3'], by simp [h1, h2, h3'], by simp [h1, h2, h3']⟩
                  · have h3' : x.list ≠ [] := fun e => h3 (by rw [e]; rfl)
                    simp (maxSteps := 1000000) (disch := first | omega | (simp only [sizeAlloc, sizeDrew, sizeSet, sizePut] <;> omega) | fail) only [GS, TT_eq, TTl, Nat.reduceAdd, Nat.reduceMul, Nat.reduceSub, Nat.reduceDiv, Nat.reduceMod, Nat.reducePow, Nat.reduceEqDiff, ↓reduceIte, reduceCtorEq, Int.reduceToNat, Int.reduceAdd, Int.reduceSub, Int.reduceMul, c1, c2, c3, c6, X.fx.cn, X.fx.ct, h2d]
                    refine ⟨fok76, fMust_cps rp false 2 _ _ l.length _ _ X.fx.run.hp hsl (fun h => absurd h (by simp)) (fun _ => .inr ⟨_, rfl, hold_ex okT (rs := []) rfl ?_⟩)⟩
                    simp (maxSteps := 1000000) (disch := first | omega | (simp only [sizeAlloc, sizeDrew, sizeSet, sizePut] <;> omega) | fail) only [GS, TT_eq, TTl, Nat.reduceAdd, Nat.reduceMul, Nat.reduceSub, Nat.reduceDiv, Nat.reduceMod, Nat.reducePow, Nat.reduceEqDiff, ↓reduceIte, reduceCtorEq, Int.reduceToNat, Int.reduceAdd, Int.reduceSub, Int.reduceMul]
                    exact hRe 2 (.inl ⟨by unfold mayS; rw [hnm]; simp [mayK, h1, h2, h3'], rfl⟩) _ X.md
                · simp (maxSteps := 1000000) (disch := first | omega | (simp only [sizeAlloc, sizeDrew, sizeSet, sizePut] <;> omega) | fail) only [GS, TT_eq, TTl, Nat.reduceAdd, Nat.reduceMul, Nat.reduceSub, Nat.reduceDiv, Nat.reduceMod, Nat.reducePow, Nat.reduceEqDiff, ↓reduceIte, reduceCtorEq, Int.reduceToNat, Int.reduceAdd, Int.reduceSub, Int.reduceMul, c1, c2, c3, c6, X.fx.cn, X.fx.ct, h2d]
                  refine ⟨fok76, fMust_cps rp true 2 _ _ l.length _ _ X.fx.run.hp hsl (fun _ => .inl ⟨_, rfl, hold_ops okT (rs := []) rfl ?_⟩) (fun h => absurd h (by simp))⟩
                  simp (maxSteps := 1000000) (disch := first | omega | (simp only [sizeAlloc, sizeDrew, sizeSet, sizePut] <;> omega) | fail) only [GS, TT_eq, TTl, Nat.reduceAdd, Nat.reduceMul, Nat.reduceSub, Nat.reduceDiv, Nat.reduceMod, Nat.reducePow, Nat.reduceEqDiff, ↓reduceIte, reduceCtorEq, Int.reduceToNat, Int.reduceAdd, Int.reduceSub, Int.reduceMul]
                  exact join _ [] [18, 19, 20, 21, 22, 23, 24, 25, 26, 27, 28, 29, 30, 31, 32, 33, 34, 35, 36, 37, 38, 39, 40, 41, 42, 43, 44, 45, 46, 47, 48] (fun vs w' => vs = [] ∧ ∃ (s : Nat) (bn bt bl : Bool) (fv : Value), KX w w' bx kb rp (.slice sa seen.length sc) (.slice la l.length lc) seen l x s bn bt bl true fv ∧ (bn || decide (x.n = 0)) = true ∧ (bt || decide (x.text = [])) = true ∧ (bl || decide (x.list = [])) = true) hq (by kernel_rfl) ⟨rfl, s, _, _, _, fv, X, by simp [h1, h2], by simp [h1, h2], by simp [h1, h2]⟩
              · have h2d : decide (x.text = []) = false := by simp [h2]
                simp (maxSteps := 1000000) (disch := first | omega | (simp only [sizeAlloc, sizeDrew, sizeSet, sizePut] <;> omega) | fail) only [GS, TT_eq, TTl, Nat.reduceAdd, Nat.reduceMul, Nat.reduceSub, Nat.reduceDiv, Nat.reduceMod, Nat.reducePow, Nat.reduceEqDiff, ↓reduceIte, reduceCtorEq, Int.reduceToNat, Int.reduceAdd, Int.reduceSub, Int.reduceMul, c1, c2, c3, c6, X.fx.cn, X.fx.ct, h2d]
                refine ⟨fok76, fMust_cps rp false 2 _ _ l.length _ _ X.fx.run.hp hsl (fun h => absurd h (by simp)) (fun _ => .inr ⟨_, rfl, hold_ex okT (rs := []) rfl ?_⟩)⟩
                simp (maxSteps := 1000000) (disch := first | omega | (simp only [sizeAlloc, sizeDrew, sizeSet, sizePut] <;> omega) | fail) only [GS, TT_eq, TTl, Nat.reduceAdd, Nat.reduceMul, Nat.reduceSub, Nat.reduceDiv, Nat.reduceMod, Nat.reducePow, Nat.reduceEqDiff, ↓reduceIte, reduceCtorEq, Int.reduceToNat, Int.reduceAdd, Int.reduceSub, Int.reduceMul]
                exact hRe 2 (.inl ⟨by unfold mayS; rw [hnm]; simp [mayK, h1, h2], rfl⟩) _ X.md
            · cases bl
              · by_cases h3 : x.list.length = 0
                · have h3' : x.list = [] := List.eq_nil_of_length_eq_zero h3
                  simp (maxSteps := 1000000) (disch := first | omega | (simp only [sizeAlloc, sizeDrew, sizeSet, sizePut] <;> omega) | fail) only [GS, TT_eq, TTl, Nat.reduceAdd, Nat.reduceMul, Nat.reduceSub, Nat.reduceDiv, Nat.reduceMod, Nat.reducePow, Nat.reduceEqDiff, ↓reduceIte, reduceCtorEq, Int.reduceToNat, Int.reduceAdd, Int.reduceSub, Int.reduceMul, c1, c2, c3, c6, X.fx.cn, X.fx.ct]
                  refine ⟨fok76, fMust_cps rp true 2 _ _ l.length _ _ X.fx.run.hp hsl (fun _ => .inl ⟨_, rfl, hold_ops okT (rs := []) rfl ?_⟩) (fun h => absurd h (by simp))⟩
                  simp (maxSteps := 1000000) (disch := first | omega | (simp only [sizeAlloc, sizeDrew, sizeSet, sizePut] <;> omega) | fail) only [GS, TT_eq, TTl, Nat.reduceAdd, Nat.reduceMul, Nat.reduceSub, Nat.reduceDiv, Nat.reduceMod, Nat.reducePow, Nat.reduceEqDiff, ↓reduceIte, reduceCtorEq, Int.reduceToNat, Int.reduceAdd, Int.reduceSub, Int.reduceMul]
                  exact join _ [] [18, 19, 20, 21, 22, 23, 24, 25, 26, 27, 28, 29, 30, 31, 32, 33, 34, 35, 36, 37, 38, 39, 40, 41, 42, 43, 44, 45, 46, 47, 48] (fun vs w' => vs = [] ∧ ∃ (s : Nat) (bn bt bl : Bool) (fv : Value), KX w w' bx kb rp (.slice sa seen.length sc) (.slice la l.length lc) seen l x s bn bt bl true fv ∧ (bn || decide (x.n = 0)) = true ∧ (bt || decide (x.text = [])) = true ∧ (bl || decide (x.list = [])) = true) hq (by kernel_rfl) ⟨rfl, s, _, _, _, fv, X, by simp [h1, h3'], by simp [h1, h3'], by simp [h1, h3']⟩
                · have h3' : x.list ≠ [] := fun e => h3 (by rw [e]; rfl)
                  simp (maxSteps := 1000000) (disch := first | omega | (simp only [sizeAlloc, sizeDrew, sizeSet, sizePut] <;> omega) | fail) only [GS, TT_eq, TTl, Nat.reduceAdd, Nat.reduceMul, Nat.reduceSub, Nat.reduceDiv, Nat.reduceMod, Nat.reducePow, Nat.reduceEqDiff, ↓reduceIte, reduceCtorEq, Int.reduceToNat, Int.reduceAdd, Int.reduceSub, Int.reduceMul, c1, c2, c3, c6, X.fx.cn, X.fx.ct]
                  refine ⟨fok76, fMust_cps rp false 2 _ _ l.length _ _ X.fx.run.hp hsl (fun h => absurd h (by simp)) (fun _ => .inr ⟨_, rfl, hold_ex okT (rs := []) rfl ?_⟩)⟩
                  simp (maxSteps := 1000000) (disch := first | omega | (simp only [sizeAlloc, sizeDrew, sizeSet, sizePut] <;> omega) | fail) only [GS, TT_eq, TTl, Nat.reduceAdd, Nat.reduceMul, Nat.reduceSub, Nat.reduceDiv, Nat.reduceMod, Nat.reducePow, Nat.reduceEqDiff, ↓reduceIte, reduceCtorEq, Int.reduceToNat, Int.reduceAdd, Int.reduceSub, Int.reduceMul]
                  exact hRe 2 (.inl ⟨by unfold mayS; rw [hnm]; simp [mayK, h1, h3'], rfl⟩) _ X.md
              · simp (maxSteps := 1000000) (disch := first | omega | (simp only [sizeAlloc, sizeDrew, sizeSet, sizePut] <;> omega) | fail) only [GS, TT_eq, TTl, Nat.reduceAdd, Nat.reduceMul, Nat.reduceSub, Nat.reduceDiv, Nat.reduceMod, Nat.reducePow, Nat.reduceEqDiff, ↓reduceIte, reduceCtorEq, Int.reduceToNat, Int.reduceAdd, Int.reduceSub, Int.reduceMul, c1, c2, c3, c6, X.fx.cn, X.fx.ct]
                refine ⟨fok76, fMust_cps rp true 2 _ _ l.length _ _ X.fx.run.hp hsl (fun _ => .inl ⟨_, rfl, hold_ops okT (rs := []) rfl ?_⟩) (fun h => absurd h (by simp))⟩
                simp (maxSteps := 1000000) (disch := first | omega | (simp only [sizeAlloc, sizeDrew, sizeSet, sizePut] <;> omega) | fail) only [GS, TT_eq, TTl, Nat.reduceAdd, Nat.reduceMul, Nat.reduceSub, Nat.reduceDiv, Nat.reduceMod, Nat.reducePow, Nat.reduceEqDiff, ↓reduceIte, reduceCtorEq, Int.reduceToNat, Int.reduceAdd, Int.reduceSub, Int.reduceMul]
                exact join _ [] [18, 19, 20, 21, 22, 23, 24, 25, 26, 27, 28, 29, 30, 31, 32, 33, 34, 35, 36, 37, 38, 39, 40, 41, 42, 43, 44, 45, 46, 47, 48] (fun vs w' => vs = [] ∧ ∃ (s : Nat) (bn bt bl : Bool) (fv : Value), KX w w' bx kb rp (.slice sa seen.length sc) (.slice la l.length lc) seen l x s bn bt bl true fv ∧ (bn || decide (x.n = 0)) = true ∧ (bt || decide (x.text = [])) = true ∧ (bl || decide (x.list = [])) = true) hq (by kernel_rfl) ⟨rfl, s, _, _, _, fv, X, by simp [h1], by simp [h1], by simp [h1]⟩
          · simp (maxSteps := 1000000) (disch := first | omega | (simp only [sizeAlloc, sizeDrew, sizeSet, sizePut] <;> omega) | fail) only [GS, TT_eq, TTl, Nat.reduceAdd, Nat.reduceMul, Nat.reduceSub, Nat.reduceDiv, Nat.reduceMod, Nat.reducePow, Nat.reduceEqDiff, ↓reduceIte, reduceCtorEq, Int.reduceToNat, Int.reduceAdd, Int.reduceSub, Int.reduceMul, c1, c2, c3, c6, X.fx.cn, X.fx.ct]
            refine ⟨fok76, fMust_cps rp false 2 _ _ l.length _ _ X.fx.run.hp hsl (fun h => absurd h (by simp)) (fun _ => .inr ⟨_, rfl, hold_ex okT (rs := []) rfl ?_⟩)⟩
            simp (maxSteps := 1000000) (disch := first | omega | (simp only [sizeAlloc, sizeDrew, sizeSet, sizePut] <;> omega) | fail) only [GS, TT_eq, TTl, Nat.reduceAdd, Nat.reduceMul, Nat.reduceSub, Nat.reduceDiv, Nat.reduceMod, Nat.reducePow, Nat.reduceEqDiff, ↓reduceIte, reduceCtorEq, Int.reduceToNat, Int.reduceAdd, Int.reduceSub, Int.reduceMul]
            exact hRe 2 (.inl ⟨by unfold mayS; rw [hnm]; simp [mayK, h1], rfl⟩) _ X.md
        · cases bt
          · by_cases h2 : x.text = []
            · have h2d : decide (x.text = []) = true := by simp [h2]
              cases bl
              · by_cases h3 : x.list.length = 0
                · have h3' : x.list = [] := List.eq_nil_of_length_eq_zero h3
                  simp (maxSteps := 1000000) (disch := first | omega | (simp only [sizeAlloc, sizeDrew, sizeSet, sizePut] <;> omega) | fail) only [GS, TT_eq, TTl, Nat.reduceAdd, Nat.reduceMul, Nat.reduceSub, Nat.reduceDiv, Nat.reduceMod, Nat.reducePow, Nat.reduceEqDiff, ↓reduceIte, reduceCtorEq, Int.reduceToNat, Int.reduceAdd, Int.reduceSub, Int.reduceMul, c1, c2, c3, c6, X.fx.cn, X.fx.ct, h2d]
                  refine ⟨fok76, fMust_cps rp true 2 _ _ l.length _ _ X.fx.run.hp hsl (fun _ => .inl ⟨_, rfl, hold_ops okT (rs := []) rfl ?_⟩) (fun h => absurd h (by simp))⟩
                  simp (maxSteps := 1000000) (disch := first | omega | (simp only [sizeAlloc, sizeDrew, sizeSet, sizePut] <;> omega) | fail) only [GS, TT_eq, TTl, Nat.reduceAdd, Nat.reduceMul, Nat.reduceSub, Nat.reduceDiv, Nat.reduceMod, Nat.reducePow, Nat.reduceEqDiff, ↓reduceIte, reduceCtorEq, Int.reduceToNat, Int.reduceAdd, Int.reduceSub, Int.reduceMul]
                  exact join _ [] [18, 19, 20, 21, 22, 23, 24, 25, 26, 27, 28, 29, 30, 31, 32, 33, 34, 35, 36, 37, 38, 39, 40, 41, 42, 43, 44, 45, 46, 47, 48] (fun vs w' => vs = [] ∧ ∃ (s : Nat) (bn bt bl : Bool) (fv : Value), KX w w' bx kb rp (.slice sa seen.length sc) (.slice la l.length lc) seen l x s bn bt bl true fv ∧ (bn || decide (x.n = 0)) = true ∧ (bt || decide (x.text = [])) = true ∧ (bl || decide (x.list = [])) = true) hq (by kernel_rfl) ⟨rfl, s, _, _, _, fv, X, by simp [h2, h3'], by simp [h2, h3'], by simp [h2, h3']⟩
                · have h3' : x.list ≠ [] := fun e => h3 (by rw [e]; rfl)
                  simp (maxSteps := 1000000) (disch := first | omega | (simp only [sizeAlloc, sizeDrew, sizeSet, sizePut] <;> omega) | fail) only [GS, TT_eq, TTl, Nat.reduceAdd, Nat.reduceMul, Nat.reduceSub, Nat.reduceDiv, Nat.reduceMod, Nat.reducePow, Nat.reduceEqDiff, ↓reduceIte, reduceCtorEq, Int.reduceToNat, Int.reduceAdd, Int.reduceSub, Int.reduceMul, c1, c2, c3, c6, X.fx.cn, X.fx.ct, h2d]
                  refine ⟨fok76, fMust_cps rp false 2 _ _ l.length _ _ X.fx.run.hp hsl (fun h => absurd h (by simp)) (fun _ => .inr ⟨_, rfl, hold_ex okT (rs := []) rfl ?_⟩)⟩
                  simp (maxSteps := 1000000) (disch := first | omega | (simp only [sizeAlloc, sizeDrew, sizeSet, sizePut] <;> omega) | fail) only [GS, TT_eq, TTl, Nat.reduceAdd, Nat.reduceMul, Nat.reduceSub, Nat.reduceDiv, Nat.reduceMod, Nat.reducePow, Nat.reduceEqDiff, ↓reduceIte, reduceCtorEq, Int.reduceToNat, Int.reduceAdd, Int.reduceSub, Int.reduceMul]
                  exact hRe 2 (.inl ⟨by unfold mayS; rw [hnm]; simp [mayK, h2, h3'], rfl⟩) _ X.md
              · simp (maxSteps := 1000000) (disch := first | omega | (simp only [sizeAlloc, sizeDrew, sizeSet, sizePut] <;> omega) | fail) only [GS, TT_eq, TTl, Nat.reduceAdd, Nat.reduceMul, Nat.reduceSub, Nat.reduceDiv, Nat.reduceMod, Nat.reducePow, Nat.reduceEqDiff, ↓reduceIte, reduceCtorEq, Int.reduceToNat, Int.reduceAdd, Int.reduceSub, Int.reduceMul, c1, c2, c3, c6, X.fx.cn, X.fx.ct, h2d]
                refine ⟨fok76, fMust_cps rp true 2 _ _ l.length _ _ X.fx.run.hp hsl (fun _ => .inl ⟨_, rfl, hold_ops okT (rs := []) rfl ?_⟩) (fun h => absurd h (by simp))⟩
                simp (maxSteps := 1000000) (disch := first | omega | (simp only [sizeAlloc, sizeDrew, sizeSet, sizePut] <;> omega) | fail) only [GS, TT_eq, TTl, Nat.reduceAdd, Nat.reduceMul, Nat.reduceSub, Nat.reduceDiv, Nat.reduceMod, Nat.reducePow, Nat.reduceEqDiff, ↓reduceIte, reduceCtorEq, Int.reduceToNat, Int.reduceAdd, Int.reduceSub, Int.reduceMul]
                exact join _ [] [18, 19, 20, 21, 22, 23, 24, 25, 26, 27, 28, 29, 30, 31, 32, 33, 34, 35, 36, 37, 38, 39, 40, 41, 42, 43, 44, 45, 46, 47, 48] (fun vs w' => vs = [] ∧ ∃ (s : Nat) (bn bt bl : Bool) (fv : Value), KX w w' bx kb rp (.slice sa seen.length sc) (.slice la l.length lc) seen l x s bn bt bl true fv ∧ (bn || decide (x.n = 0)) = true ∧ (bt || decide (x.text = [])) = true ∧ (bl || decide (x.list = [])) = true) hq (by kernel_rfl) ⟨rfl, s, _, _, _, fv, X, by simp [h2], by simp [h2], by simp [h2]⟩
            · have h2d : decide (x.text = []) = false := by simp [h2]
              simp (maxSteps := 1000000) (disch := first | omega | (simp only [sizeAlloc, sizeDrew, sizeSet, sizePut] <;> omega) | fail) only [GS, TT_eq, TTl, Nat.reduceAdd, Nat.reduceMul, Nat.reduceSub, Nat.reduceDiv, Nat.reduceMod, Nat.reducePow, Nat.reduceEqDiff, ↓reduceIte, reduceCtorEq, Int.reduceToNat, Int.reduceAdd, Int.reduceSub, Int.reduceMul, c1, c2, c3, c6, X.fx.cn, X.fx.ct, h2d]
              refine ⟨fok76, fMust_cps rp false 2 _ _ l.length _ _ X.fx.run.hp hsl (fun h => absurd h (by simp)) (fun _ => .inr ⟨_, rfl, hold_ex okT (rs := []) rfl ?_⟩)⟩
              simp (maxSteps := 1000000) (disch := first | omega | (simp only [sizeAlloc, sizeDrew, sizeSet, sizePut] <;> omega) | fail) only [GS, TT_eq, TTl, Nat.reduceAdd, Nat.reduceMul, Nat.reduceSub, Nat.reduceDiv, Nat.reduceMod, Nat.reducePow, Nat.reduceEqDiff, ↓reduceIte, reduceCtorEq, Int.reduceToNat, Int.reduceAdd, Int.reduceSub, Int.reduceMul]
              exact hRe 2 (.inl ⟨by unfold mayS; rw [hnm]; simp [mayK, h2], rfl⟩) _ X.md
          · cases bl
            · by_cases h3 : x.list.length = 0
              · have h3' : x.list = [] := List.eq_nil_of_length_eq_zero h3
                simp (maxSteps := 1000000) (disch := first | omega | (simp only [sizeAlloc, sizeDrew, sizeSet, sizePut] <;> omega) | fail) only [GS, TT_eq, TTl, Nat.reduceAdd, Nat.reduceMul, Nat.reduceSub, Nat.reduceDiv, Nat.reduceMod, Nat.reducePow, Nat.reduceEqDiff, ↓reduceIte, reduceCtorEq, Int.reduceToNat, Int.reduceAdd, Int.reduceSub, Int.reduceMul, c1, c2, c3, c6, X.fx.cn, X.fx.ct]
                refine ⟨fok76, fMust_cps rp true 2 _ _ l.length _ _ X.fx.run.hp hsl (fun _ => .inl ⟨_, rfl, hold_ops okT (rs := []) rfl ?_⟩) (fun h => absurd h (by simp))⟩
                simp (maxSteps := 1000000) (disch := first | omega | (simp only [sizeAlloc, sizeDrew, sizeSet, sizePut] <;> omega) | fail) only [GS, TT_eq, TTl, Nat.reduceAdd, Nat.reduceMul, Nat.reduceSub, Nat.reduceDiv, Nat.reduceMod, Nat.reducePow, Nat.reduceEqDiff, ↓reduceIte, reduceCtorEq, Int.reduceToNat, Int.reduceAdd, Int.reduceSub, Int.reduceMul]
                exact join _ [] [18, 19, 20, 21, 22, 23, 24, 25, 26, 27, 28, 29, 30, 31, 32, 33, 34, 35, 36, 37, 38, 39, 40, 41, 42, 43, 44, 45, 46, 47, 48] (fun vs w' => vs = [] ∧ ∃ (s : Nat) (bn bt bl : Bool) (fv : Value), KX w w' bx kb rp (.slice sa seen.length sc) (.slice la l.length lc) seen l x s bn bt bl true fv ∧ (bn || decide (x.n = 0)) = true ∧ (bt || decide (x.text = [])) = true ∧ (bl || decide (x.list = [])) = true) hq (by kernel_rfl) ⟨rfl, s, _, _, _, fv, X, by simp [h3'], by simp [h3'], by simp [h3']⟩
              · have h3' : x.list ≠ [] := fun e => h3 (by rw [e]; rfl)
                simp (maxSteps := 1000000) (disch := first | omega | (simp only [sizeAlloc, sizeDrew, sizeSet, sizePut] <;> omega) | fail) only [GS, TT_eq, TTl, Nat.reduceAdd, Nat.reduceMul, Nat.reduceSub, Nat.reduceDiv, Nat.reduceMod, Nat.reducePow, Nat.reduceEqDiff, ↓reduceIte, reduceCtorEq, Int.reduceToNat, Int.reduceAdd, Int.reduceSub, Int.reduceMul, c1, c2, c3, c6, X.fx.cn, X.fx.ct]
                refine ⟨fok76, fMust_cps rp false 2 _ _ l.length _ _ X.fx.run.hp hsl (fun h => absurd h (by simp)) (fun _ => .inr ⟨_, rfl, hold_ex okT (rs := []) rfl ?_⟩)⟩
                simp (maxSteps := 1000000) (disch := first | omega | (simp only [sizeAlloc, sizeDrew, sizeSet, sizePut] <;> omega) | fail) only [GS, TT_eq, TTl, Nat.reduceAdd, Nat.reduceMul, Nat.reduceSub, Nat.reduceDiv, Nat.reduceMod, Nat.reducePow, Nat.reduceEqDiff, ↓reduceIte, reduceCtorEq, Int.reduceToNat, Int.reduceAdd, Int.reduceSub, Int.reduceMul]
                exact hRe 2 (.inl ⟨by unfold mayS; rw [hnm]; simp [mayK, h3'], rfl⟩) _ X.md
            · simp (maxSteps := 1000000) (disch := first | omega | (simp only [sizeAlloc, sizeDrew, sizeSet, sizePut] <;> omega) | fail) only [GS, TT_eq, TTl, Nat.reduceAdd, Nat.reduceMul, Nat.reduceSub, Nat.reduceDiv, Nat.reduceMod, Nat.reducePow, Nat.reduceEqDiff, ↓reduceIte, reduceCtorEq, Int.reduceToNat, Int.reduceAdd, Int.reduceSub, Int.reduceMul, c1, c2, c3, c6, X.fx.cn, X.fx.ct]
              refine ⟨fok76, fMust_cps rp true 2 _ _ l.length _ _ X.fx.run.hp hsl (fun _ => .inl ⟨_, rfl, hold_ops okT (rs := []) rfl ?_⟩) (fun h => absurd h (by simp))⟩
              simp (maxSteps := 1000000) (disch := first | omega | (simp only [sizeAlloc, sizeDrew, sizeSet, sizePut] <;> omega) | fail) only [GS, TT_eq, TTl, Nat.reduceAdd, Nat.reduceMul, Nat.reduceSub, Nat.reduceDiv, Nat.reduceMod, Nat.reducePow, Nat.reduceEqDiff, ↓reduceIte, reduceCtorEq, Int.reduceToNat, Int.reduceAdd, Int.reduceSub, Int.reduceMul]
              exact join _ [] [18, 19, 20, 21, 22, 23, 24, 25, 26, 27, 28, 29, 30, 31, 32, 33, 34, 35, 36, 37, 38, 39, 40, 41, 42, 43, 44, 45, 46, 47, 48] (fun vs w' => vs = [] ∧ ∃ (s : Nat) (bn bt bl : Bool) (fv : Value), KX w w' bx kb rp (.slice sa seen.length sc) (.slice la l.length lc) seen l x s bn bt bl true fv ∧ (bn || decide (x.n = 0)) = true ∧ (bt || decide (x.text = [])) = true ∧ (bl || decide (x.list = [])) = true) hq (by kernel_rfl) ⟨rfl, s, _, _, _, fv, X, by simp [Bool.true_or], by simp [Bool.true_or], by simp [Bool.true_or]⟩
    case h2 =>
      rintro vs w3 J3 ⟨rfl, s, bn, bt, bl, fv, X, g1, g2, g3⟩
      refine hold_stop (s' := none) ?_
      refine hold_code okT (rs := []) rfl ?_
      have hxa := hx.a
      have hxb := hx.b
      have hxc := hx.c
      have hll := h.ll
      simp (maxSteps := 1000000) (disch := first | omega | (simp only [sizeAlloc, sizeDrew, sizeSet, sizePut] <;> omega) | fail) only [GS, TT_eq, TTl, Nat.reduceAdd, Nat.reduceMul, Nat.reduceSub, Nat.reduceDiv, Nat.reduceMod, Nat.reducePow, Nat.reduceEqDiff, ↓reduceIte, reduceCtorEq, Int.reduceToNat, Int.reduceAdd, Int.reduceSub, Int.reduceMul, X.fx.ca, X.fx.cb, X.fx.cc]
      have hA := heapNew (w := w3) (o := .cells #[.int .i64 x.a, .int .i64 x.b, .int .i64 x.c] 3)
      have X := X.mod ((Mod.refl [] w3).alloc (.cells #[.int .i64 x.a, .int .i64 x.b, .int .i64 x.c] 3))
      generalize w3.alloc (.cells #[.int .i64 x.a, .int .i64 x.b, .int .i64 x.c] 3) = w4 at hA X ⊢
      generalize w3.heap.size = ab at hA ⊢
      have hnm := X.nm
      rw [if_pos rfl] at hnm
      have hmay : ∀ e, mayK s bn bt bl x l.length = e → mayS x l.length = e := fun e he => by unfold mayS; rw [hnm]; exact he
      refine hold_loop okT (rs := []) rfl [57] [6, 7, 58, 59, 60, 61, 62, 63, 64, 65, 66, 67, 68, 69, 70, 71, 72, 73, 74, 75, 76, 77, 78, 79, 80, 81, 82, 83, 84, 85, 86, 87, 88, 89, 90, 91] (fun vs w' => ∃ k : Nat, k ≤ 3 ∧ vs = [.int .i64 k] ∧ KX w w' bx kb rp (.slice sa seen.length sc) (.slice la l.length lc) seen l x s bn bt bl true fv ∧ w'.heap[ab]? = some (.cells #[.int .i64 x.a, .int .i64 x.b, .int .i64 x.c] 3 (0, 0)) ∧ (1 ≤ k → okI 0 s x.a l.length = true) ∧ (2 ≤ k → okI 1 s x.b l.length = true) ∧ (3 ≤ k → okI 2 s x.c l.length = true)) (fun vs _ => match vs with | [.int _ i] => 3 - i.toNat | _ => 0) (by kernel_rfl) ⟨0, by omega, rfl, X, hA, by omega, by omega, by omega⟩ ?_
      rintro vs w5 J5 ⟨k, hk, rfl, X, hA, m1, m2, m3⟩
      have c0 : w5.cell? ⟨kb, 0, none⟩ = some (.int .i64 s) := by rw [cellOf X.kb]; rfl
      by_cases hk3 : k < 3
      · have hk3' : k = 0 ∨ k = 1 ∨ k = 2 := by omega
        rcases hk3' with rfl | rfl | rfl
        · have q0 : w5.cell? ⟨ab, 0, none⟩ = some (.int .i64 x.a) := by rw [cellOf hA]; rfl
          by_cases hv : x.a = 0
          · by_cases hs : s ≤ 0
            · simp (maxSteps := 1000000) (disch := first | omega | (simp only [sizeAlloc, sizeDrew, sizeSet, sizePut] <;> omega) | fail) only [GS, TT_eq, TTl, Nat.reduceAdd, Nat.reduceMul, Nat.reduceSub, Nat.reduceDiv, Nat.reduceMod, Nat.reducePow, Nat.reduceEqDiff, ↓reduceIte, reduceCtorEq, Int.reduceToNat, Int.reduceAdd, Int.reduceSub, Int.reduceMul, q0, c0, X.fx.r1]
              refine ⟨fok76, fMust_cps rp true 2 _ _ l.length _ _ X.fx.run.hp hsl (fun _ => .inl ⟨_, rfl, hold_ops okT (rs := []) rfl ?_⟩) (fun h => absurd h (by simp))⟩
              simp (maxSteps := 1000000) (disch := first | omega | (simp only [sizeAlloc, sizeDrew, sizeSet, sizePut] <;> omega) | fail) only [GS, TT_eq, TTl, Nat.reduceAdd, Nat.reduceMul, Nat.reduceSub, Nat.reduceDiv, Nat.reduceMod, Nat.reducePow, Nat.reduceEqDiff, ↓reduceIte, reduceCtorEq, Int.reduceToNat, Int.reduceAdd, Int.reduceSub, Int.reduceMul]
              exact ⟨⟨1, by omega, rfl, X, hA, fun _ => decide_eq_true (by omega), by omega, by omega⟩, by omega⟩
            · by_cases hv1 : x.a < l.length
              · simp (maxSteps := 1000000) (disch := first | omega | (simp only [sizeAlloc, sizeDrew, sizeSet, sizePut] <;> omega) | fail) only [GS, TT_eq, TTl, Nat.reduceAdd, Nat.reduceMul, Nat.reduceSub, Nat.reduceDiv, Nat.reduceMod, Nat.reducePow, Nat.reduceEqDiff, ↓reduceIte, reduceCtorEq, Int.reduceToNat, Int.reduceAdd, Int.reduceSub, Int.reduceMul, q0, c0, X.fx.r1]
                refine ⟨fok76, fMust_cps rp true 2 _ _ l.length _ _ X.fx.run.hp hsl (fun _ => .inl ⟨_, rfl, hold_ops okT (rs := []) rfl ?_⟩) (fun h => absurd h (by simp))⟩
                simp (maxSteps := 1000000) (disch := first | omega | (simp only [sizeAlloc, sizeDrew, sizeSet, sizePut] <;> omega) | fail) only [GS, TT_eq, TTl, Nat.reduceAdd, Nat.reduceMul, Nat.reduceSub, Nat.reduceDiv, Nat.reduceMod, Nat.reducePow, Nat.reduceEqDiff, ↓reduceIte, reduceCtorEq, Int.reduceToNat, Int.reduceAdd, Int.reduceSub, Int.reduceMul]
                exact ⟨⟨1, by omega, rfl, X, hA, fun _ => decide_eq_true (by omega), by omega, by omega⟩, by omega⟩
              · simp (maxSteps := 1000000) (disch := first | omega | (simp only [sizeAlloc, sizeDrew, sizeSet, sizePut] <;> omega) | fail) only [GS, TT_eq, TTl, Nat.reduceAdd, Nat.reduceMul, Nat.reduceSub, Nat.reduceDiv, Nat.reduceMod, Nat.reducePow, Nat.reduceEqDiff, ↓reduceIte, reduceCtorEq, Int.reduceToNat, Int.reduceAdd, Int.reduceSub, Int.reduceMul, q0, c0, X.fx.r1]
                refine ⟨fok76, fMust_cps rp false 2 _ _ l.length _ _ X.fx.run.hp hsl (fun h => absurd h (by simp)) (fun _ => .inr ⟨_, rfl, hold_ex okT (rs := []) rfl ?_⟩)⟩
                simp (maxSteps := 1000000) (disch := first | omega | (simp only [sizeAlloc, sizeDrew, sizeSet, sizePut] <;> omega) | fail) only [GS, TT_eq, TTl, Nat.reduceAdd, Nat.reduceMul, Nat.reduceSub, Nat.reduceDiv, Nat.reduceMod, Nat.reducePow, Nat.reduceEqDiff, ↓reduceIte, reduceCtorEq, Int.reduceToNat, Int.reduceAdd, Int.reduceSub, Int.reduceMul]
                exact hRe 2 (.inl ⟨hmay _ (by unfold mayK; rw [show okI 0 s x.a l.length = false from decide_eq_false (by omega)]; simp), rfl⟩) _ X.md
          · by_cases hs : s ≤ 0
            · simp (maxSteps := 1000000) (disch := first | omega | (simp only [sizeAlloc, sizeDrew, sizeSet, sizePut] <;> omega) | fail) only [GS, TT_eq, TTl, Nat.reduceAdd, Nat.reduceMul, Nat.reduceSub, Nat.reduceDiv, Nat.reduceMod, Nat.reducePow, Nat.reduceEqDiff, ↓reduceIte, reduceCtorEq, Int.reduceToNat, Int.reduceAdd, Int.reduceSub, Int.reduceMul, q0, c0, X.fx.r1]
              refine ⟨fok76, fMust_cps rp false 2 _ _ l.length _ _ X.fx.run.hp hsl (fun h => absurd h (by simp)) (fun _ => .inr ⟨_, rfl, hold_ex okT (rs := []) rfl ?_⟩)⟩
              simp (maxSteps := 1000000) (disch := first | omega | (simp only [sizeAlloc, sizeDrew, sizeSet, sizePut] <;> omega) | fail) only [GS, TT_eq, TTl, Nat.reduceAdd, Nat.reduceMul, Nat.reduceSub, Nat.reduceDiv, Nat.reduceMod, Nat.reducePow, Nat.reduceEqDiff, ↓reduceIte, reduceCtorEq, Int.reduceToNat, Int.reduceAdd, Int.reduceSub, Int.reduceMul]
              exact hRe 2 (.inl ⟨hmay _ (by unfold mayK; rw [show okI 0 s x.a l.length = false from decide_eq_false (by omega)]; simp), rfl⟩) _ X.md
            · by_cases hv0 : 0 ≤ x.a
              · by_cases hv1 : x.a < l.length
                · simp (maxSteps := 1000000) (disch := first | omega | (simp only [sizeAlloc, sizeDrew, sizeSet, sizePut] <;> omega) | fail) only [GS, TT_eq, TTl, Nat.reduceAdd, Nat.reduceMul, Nat.reduceSub, Nat.reduceDiv, Nat.reduceMod, Nat.reducePow, Nat.reduceEqDiff, ↓reduceIte, reduceCtorEq, Int.reduceToNat, Int.reduceAdd, Int.reduceSub, Int.reduceMul, q0, c0, X.fx.r1]
                  refine ⟨fok76, fMust_cps rp true 2 _ _ l.length _ _ X.fx.run.hp hsl (fun _ => .inl ⟨_, rfl, hold_ops okT (rs := []) rfl ?_⟩) (fun h => absurd h (by simp))⟩
                  simp (maxSteps := 1000000) (disch := first | omega | (simp only [sizeAlloc, sizeDrew, sizeSet, sizePut] <;> omega) | fail) only [GS, TT_eq, TTl, Nat.reduceAdd, Nat.reduceMul, Nat.reduceSub, Nat.reduceDiv, Nat.reduceMod, Nat.reducePow, Nat.reduceEqDiff, ↓reduceIte, reduceCtorEq, Int.reduceToNat, Int.reduceAdd, Int.reduceSub, Int.reduceMul]
                  exact ⟨⟨1, by omega, rfl, X, hA, fun _ => decide_eq_true (by omega), by omega, by omega⟩, by omega⟩
                · simp (maxSteps := 1000000) (disch := first | omega | (simp only [sizeAlloc, sizeDrew, sizeSet, sizePut] <;> omega) | fail) only [GS, TT_eq, TTl, Nat.reduceAdd, Nat.reduceMul, Nat.reduceSub, Nat.reduceDiv, Nat.reduceMod, Nat.reducePow, Nat.reduceEqDiff, ↓reduceIte, reduceCtorEq, Int.reduceToNat, Int.reduceAdd, Int.reduceSub, Int.reduceMul, q0, c0, X.fx.r1]
                  refine ⟨fok76, fMust_cps rp false 2 _ _ l.length _ _ X.fx.run.hp hsl (fun h => absurd h (by simp)) (fun _ => .inr ⟨_, rfl, hold_ex okT (rs := []) rfl ?_⟩)⟩
                  simp (maxSteps := 1000000) (disch := first | omega | (simp only [sizeAlloc, sizeDrew, sizeSet, sizePut] <;> omega) | fail) only [GS, TT_eq, TTl, Nat.reduceAdd, Nat.reduceMul, Nat.reduceSub, Nat.reduceDiv, Nat.reduceMod, Nat.reducePow, Nat.reduceEqDiff, ↓reduceIte, reduceCtorEq, Int.reduceToNat, Int.reduceAdd, Int.reduceSub, Int.reduceMul]
                  exact hRe 2 (.inl ⟨hmay _ (by unfold mayK; rw [show okI 0 s x.a l.length = false from decide_eq_false (by omega)]; simp), rfl⟩) _ X.md
              · simp (maxSteps := 1000000) (disch := first | omega | (simp only [sizeAlloc, sizeDrew, sizeSet, sizePut] <;> omega) | fail) only [GS, TT_eq, TTl, Nat.reduceAdd, Nat.reduceMul, Nat.reduceSub, Nat.reduceDiv, Nat.reduceMod, Nat.reducePow, Nat.reduceEqDiff, ↓reduceIte, reduceCtorEq, Int.reduceToNat, Int.reduceAdd, Int.reduceSub, Int.reduceMul, q0, c0, X.fx.r1]
                refine ⟨fok76, fMust_cps rp false 2 _ _ l.length _ _ X.fx.run.hp hsl (fun h => absurd h (by simp)) (fun _ => .inr ⟨_, rfl, hold_ex okT (rs := []) rfl ?_⟩)⟩
                simp (maxSteps := 1000000) (disch := first | omega | (simp only [sizeAlloc, sizeDrew, sizeSet, sizePut] <;> omega) | fail) only [GS, TT_eq, TTl, Nat.reduceAdd, Nat.reduceMul, Nat.reduceSub, Nat.reduceDiv, Nat.reduceMod, Nat.reducePow, Nat.reduceEqDiff, ↓reduceIte, reduceCtorEq, Int.reduceToNat, Int.reduceAdd, Int.reduceSub, Int.reduceMul]
                exact hRe 2 (.inl ⟨hmay _ (by unfold mayK; rw [show okI 0 s x.a l.length = false from decide_eq_false (by omega)]; simp), rfl⟩) _ X.md
        · have q1 : w5.cell? ⟨ab, 1, none⟩ = some (.int .i64 x.b) := by rw [cellOf hA]; rfl
          by_cases hv : x.b = 0
          · by_cases hs : s ≤ 1
            · simp (maxSteps := 1000000) (disch := first | omega | (simp only [sizeAlloc, sizeDrew, sizeSet, sizePut] <;> omega) | fail) only [GS, TT_eq, TTl, Nat.reduceAdd, Nat.reduceMul, Nat.reduceSub, Nat.reduceDiv, Nat.reduceMod, Nat.reducePow, Nat.reduceEqDiff, ↓reduceIte, reduceCtorEq, Int.reduceToNat, Int.reduceAdd, Int.reduceSub, Int.reduceMul, q1, c0, X.fx.r1]
              refine ⟨fok76, fMust_cps rp true 2 _ _ l.length _ _ X.fx.run.hp hsl (fun _ => .inl ⟨_, rfl, hold_ops okT (rs := []) rfl ?_⟩) (fun h => absurd h (by simp))⟩
              simp (maxSteps := 1000000) (disch := first | omega | (simp only [sizeAlloc, sizeDrew, sizeSet, sizePut] <;> omega) | fail) only [GS, TT_eq, TTl, Nat.reduceAdd, Nat.reduceMul, Nat.reduceSub, Nat.reduceDiv, Nat.reduceMod, Nat.reducePow, Nat.reduceEqDiff, ↓reduceIte, reduceCtorEq, Int.reduceToNat, Int.reduceAdd, Int.reduceSub, Int.reduceMul]
              exact ⟨⟨2, by omega, rfl, X, hA, fun _ => m1 (by omega), fun _ => decide_eq_true (by omega), by omega⟩, by omega⟩
            · by_cases hv1 : x.b < l.length
              · simp (maxSteps := 1000000) (disch := first | omega | (simp only [sizeAlloc, sizeDrew, sizeSet, sizePut] <;> omega) | fail) only [GS, TT_eq, TTl, Nat.reduceAdd, Nat.reduceMul, Nat.reduceSub, Nat.reduceDiv, Nat.reduceMod, Nat.reducePow, Nat.reduceEqDiff, ↓reduceIte, reduceCtorEq, Int.reduceToNat, Int.reduceAdd, Int.reduceSub, Int.reduceMul, q1, c0, X.fx.r1]
                refine ⟨fok76, fMust_cps rp true 2 _ _ l.length _ _ X.fx.run.hp hsl (fun _ => .inl ⟨_, rfl, hold_ops okT (rs := []) rfl ?_⟩) (fun h => absurd h (by simp))⟩
                simp (maxSteps := 1000000) (disch := first | omega | (simp only [sizeAlloc, sizeDrew, sizeSet, sizePut] <;> omega) | fail) only [GS, TT_eq, TTl, Nat.reduceAdd, Nat.reduceMul, Nat.reduceSub, Nat.reduceDiv, Nat.reduceMod, Nat.reducePow, Nat.reduceEqDiff, ↓reduceIte, reduceCtorEq, Int.reduceToNat, Int.reduceAdd, Int.reduceSub, Int.reduceMul]
                exact ⟨⟨2, by omega, rfl, X, hA, fun _ => m1 (by omega), fun _ => decide_eq_true (by omega), by omega⟩, by omega⟩
              · simp (maxSteps := 1000000) (disch := first | omega | (simp only [sizeAlloc, sizeDrew, sizeSet, sizePut] <;> omega) | fail) only [GS, TT_eq, TTl, Nat.reduceAdd, Nat.reduceMul, Nat.reduceSub, Nat.reduceDiv, Nat.reduceMod, Nat.reducePow, Nat.reduceEqDiff, ↓reduceIte, reduceCtorEq, Int.reduceToNat, Int.reduceAdd, Int.reduceSub, Int.reduceMul, q1, c0, X.fx.r1]
                refine ⟨fok76, fMust_cps rp false 2 _ _ l.length _ _ X.fx.run.hp hsl (fun h => absurd h (by simp)) (fun _ => .inr ⟨_, rfl, hold_ex okT (rs := []) rfl ?_⟩)⟩
                simp (maxSteps := 1000000) (disch := first | omega | (simp only [sizeAlloc, sizeDrew, sizeSet, sizePut] <;> omega) | fail) only [GS, TT_eq, TTl, Nat.reduceAdd, Nat.reduceMul, Nat.reduceSub, Nat.reduceDiv, Nat.reduceMod, Nat.reducePow, Nat.reduceEqDiff, ↓reduceIte, reduceCtorEq, Int.reduceToNat, Int.reduceAdd, Int.reduceSub, Int.reduceMul]
                exact hRe 2 (.inl ⟨hmay _ (by unfold mayK; rw [show okI 1 s x.b l.length = false from decide_eq_false (by omega)]; simp), rfl⟩) _ X.md
          · by_cases hs : s ≤ 1
            · simp (maxSteps := 1000000) (disch := first | omega | (simp only [sizeAlloc, sizeDrew, sizeSet, sizePut] <;> omega) | fail) only [GS, TT_eq, TTl, Nat.reduceAdd, Nat.reduceMul, Nat.reduceSub, Nat.reduceDiv, Nat.reduceMod, Nat.reducePow, Nat.reduceEqDiff, ↓reduceIte, reduceCtorEq, Int.reduceToNat, Int.reduceAdd, Int.reduceSub, Int.reduceMul, q1, c0, X.fx.r1]
              refine ⟨fok76, fMust_cps rp false 2 _ _ l.length _ _ X.fx.run.hp hsl (fun h => absurd h (by simp)) (fun _ => .inr ⟨_, rfl, hold_ex okT (rs := []) rfl ?_⟩)⟩
              simp (maxSteps := 1000000) (disch := first | omega | (simp only [sizeAlloc, sizeDrew, sizeSet, sizePut] <;> omega) | fail) only [GS, TT_eq, TTl, Nat.reduceAdd, Nat.reduceMul, Nat.reduceSub, Nat.reduceDiv, Nat.reduceMod, Nat.reducePow, Nat.reduceEqDiff, ↓reduceIte, reduceCtorEq, Int.reduceToNat, Int.reduceAdd, Int.reduceSub, Int.reduceMul]
              exact hRe 2 (.inl ⟨hmay _ (by unfold mayK; rw [show okI 1 s x.b l.length = false from decide_eq_false (by omega)]; simp), rfl⟩) _ X.md
            · by_cases hv0 : 0 ≤ x.b
              · by_cases hv1 : x.b < l.length
                · simp (maxSteps := 1000000) (disch := first | omega | (simp only [sizeAlloc, sizeDrew, sizeSet, sizePut] <;> omega) | fail) only [GS, TT_eq, TTl, Nat.reduceAdd, Nat.reduceMul, Nat.reduceSub, Nat.reduceDiv, Nat.reduceMod, Nat.reducePow, Nat.reduceEqDiff, ↓reduceIte, reduceCtorEq, Int.reduceToNat, Int.reduceAdd, Int.reduceSub, Int.reduceMul, q1, c0, X.fx.r1]
                  refine ⟨fok76, fMust_cps rp true 2 _ _ l.length _ _ X.fx.run.hp hsl (fun _ => .inl ⟨_, rfl, hold_ops okT (rs := []) rfl ?_⟩) (fun h => absurd h (by simp))⟩
                  simp (maxSteps := 1000000) (disch := first | omega | (simp only [sizeAlloc, sizeDrew, sizeSet, sizePut] <;> omega) | fail) only [GS, TT_eq, TTl, Nat.reduceAdd, Nat.reduceMul, Nat.reduceSub, Nat.reduceDiv, Nat.reduceMod, Nat.reducePow, Nat.reduceEqDiff, ↓reduceIte, reduceCtorEq, Int.reduceToNat, Int.reduceAdd, Int.reduceSub, Int.reduceMul]
                  exact ⟨⟨2, by omega, rfl, X, hA, fun _ => m1 (by omega), fun _ => decide_eq_true (by omega), by omega⟩, by omega⟩
                · simp (maxSteps := 1000000) (disch := first | omega | (simp only [sizeAlloc, sizeDrew, sizeSet, sizePut] <;> omega) | fail) only [GS, TT_eq, TTl, Nat.reduceAdd, Nat.reduceMul, Nat.reduceSub, Nat.reduceDiv, Nat.reduceMod, Nat.reducePow, Nat.reduceEqDiff, ↓reduceIte, reduceCtorEq, Int.reduceToNat, Int.reduceAdd, Int.reduceSub, Int.reduceMul, q1, c0, X.fx.r1]
                  refine ⟨fok76, fMust_cps rp false 2 _ _ l.length _ _ X.fx.run.hp hsl (fun h => absurd h (by simp)) (fun _ => .inr ⟨_, rfl, hold_ex okT (rs := []) rfl ?_⟩)⟩
                  simp (maxSteps := 1000000) (disch := first | omega | (simp only [sizeAlloc, sizeDrew, sizeSet, sizePut] <;> omega) | fail) only [GS, TT_eq, TTl, Nat.reduceAdd, Nat.reduceMul, Nat.reduceSub, Nat.reduceDiv, Nat.reduceMod, Nat.reducePow, Nat.reduceEqDiff, ↓reduceIte, reduceCtorEq, Int.reduceToNat, Int.reduceAdd, Int.reduceSub, Int.reduceMul]
                  exact hRe 2 (.inl ⟨hmay _ (by unfold mayK; rw [show okI 1 s x.b l.length = false from decide_eq_false (by omega)]; simp), rfl⟩) _ X.md
              · simp (maxSteps := 1000000) (disch := first | omega | (simp only [sizeAlloc, sizeDrew, sizeSet, sizePut] <;> omega) | fail) only [GS, TT_eq, TTl, Nat.reduceAdd, Nat.reduceMul, Nat.reduceSub, Nat.reduceDiv, Nat.reduceMod, Nat.reducePow, Nat.reduceEqDiff, ↓reduceIte, reduceCtorEq, Int.reduceToNat, Int.reduceAdd, Int.reduceSub, Int.reduceMul, q1, c0, X.fx.r1]
                refine ⟨fok76, fMust_cps rp false 2 _ _ l.length _ _ X.fx.run.hp hsl (fun h => absurd h (by simp)) (fun _ => .inr ⟨_, rfl, hold_ex okT (rs := []) rfl ?_⟩)⟩
                simp (maxSteps := 1000000) (disch := first | omega | (simp only [sizeAlloc, sizeDrew, sizeSet, sizePut] <;> omega) | fail) only [GS, TT_eq, TTl, Nat.reduceAdd, Nat.reduceMul, Nat.reduceSub, Nat.reduceDiv, Nat.reduceMod, Nat.reducePow, Nat.reduceEqDiff, ↓reduceIte, reduceCtorEq, Int.reduceToNat, Int.reduceAdd, Int.reduceSub, Int.reduceMul]
                exact hRe 2 (.inl ⟨hmay _ (by unfold mayK; rw [show okI 1 s x.b l.length = false from decide_eq_false (by omega)]; simp), rfl⟩) _ X.md
        · have q2 : w5.cell? ⟨ab, 2, none⟩ = some (.int .i64 x.c) := by rw [cellOf hA]; rfl
          by_cases hv : x.c = 0
          · by_cases hs : s ≤ 2
            · simp (maxSteps := 1000000) (disch := first | omega | (simp only [sizeAlloc, sizeDrew, sizeSet, sizePut] <;> omega) | fail) only [GS, TT_eq, TTl, Nat.reduceAdd, Nat.reduceMul, Nat.reduceSub, Nat.reduceDiv, Nat.reduceMod, Nat.reducePow, Nat.reduceEqDiff, ↓reduceIte, reduceCtorEq, Int.reduceToNat, Int.reduceAdd, Int.reduceSub, Int.reduceMul, q2, c0, X.fx.r1]
              refine ⟨fok76, fMust_cps rp true 2 _ _ l.length _ _ X.fx.run.hp hsl (fun _ => .inl ⟨_, rfl, hold_ops okT (rs := []) rfl ?_⟩) (fun h => absurd h (by simp))⟩
              simp (maxSteps := 1000000) (disch := first | omega | (simp only [sizeAlloc, sizeDrew, sizeSet, sizePut] <;> omega) | fail) only [GS, TT_eq, TTl, Nat.reduceAdd, Nat.reduceMul, Nat.reduceSub, Nat.reduceDiv, Nat.reduceMod, Nat.reducePow, Nat.reduceEqDiff, ↓reduceIte, reduceCtorEq, Int.reduceToNat, Int.reduceAdd, Int.reduceSub, Int.reduceMul]
              exact ⟨⟨3, by omega, rfl, X, hA, fun _ => m1 (by omega), fun _ => m2 (by omega), fun _ => decide_eq_true (by omega)⟩, by omega⟩
            · by_cases hv1 : x.c < l.length
              · simp (maxSteps := 1000000) (disch := first | omega | (simp only [sizeAlloc, sizeDrew, sizeSet, sizePut] <;> omega) | fail) only [GS, TT_eq, TTl, Nat.reduceAdd, Nat.reduceMul, Nat.reduceSub, Nat.reduceDiv, Nat.reduceMod, Nat.reducePow, Nat.reduceEqDiff, ↓reduceIte, reduceCtorEq, Int.reduceToNat, Int.reduceAdd, Int.reduceSub, Int.reduceMul, q2, c0, X.fx.r1]
                refine ⟨fok76, fMust_cps rp true 2 _ _ l.length _ _ X.fx.run.hp hsl (fun _ => .inl ⟨_, rfl, hold_ops okT (rs := []) rfl ?_⟩) (fun h => absurd h (by simp))⟩
                simp (maxSteps := 1000000) (disch := first | omega | (simp only [sizeAlloc, sizeDrew, sizeSet, sizePut] <;> omega) | fail) only [GS, TT_eq, TTl, Nat.reduceAdd, Nat.reduceMul, Nat.reduceSub, Nat.reduceDiv, Nat.reduceMod, Nat.reducePow, Nat.reduceEqDiff, ↓reduceIte, reduceCtorEq, Int.reduceToNat, Int.reduceAdd, Int.reduceSub, Int.reduceMul]
                exact ⟨⟨3, by omega, rfl, X, hA, fun _ => m1 (by omega), fun _ => m2 (by omega), fun _ => decide_eq_true (by omega)⟩, by omega⟩
              · simp (maxSteps := 1000000) (disch := first | omega | (simp only [sizeAlloc, sizeDrew, sizeSet, sizePut] <;> omega) | fail) only [GS, TT_eq, TTl, Nat.reduceAdd, Nat.reduceMul, Nat.reduceSub, Nat.reduceDiv, Nat.reduceMod, Nat.reducePow, Nat.reduceEqDiff, ↓reduceIte, reduceCtorEq, Int.reduceToNat, Int.reduceAdd, Int.reduceSub, Int.reduceMul, q2, c0, X.fx.r1]
                refine ⟨fok76, fMust_cps rp false 2 _ _ l.length _ _ X.fx.run.hp hsl (fun h => absurd h (by simp)) (fun _ => .inr ⟨_, rfl, hold_ex okT (rs := []) rfl ?_⟩)⟩
                simp (maxSteps := 1000000) (disch := first | omega | (simp only [sizeAlloc, sizeDrew, sizeSet, sizePut] <;> omega) | fail) only [GS, TT_eq, TTl, Nat.reduceAdd, Nat.reduceMul, Nat.reduceSub, Nat.reduceDiv, Nat.reduceMod, Nat.reducePow, Nat.reduceEqDiff, ↓reduceIte, reduceCtorEq, Int.reduceToNat, Int.reduceAdd, Int.reduceSub, Int.reduceMul]
                exact hRe 2 (.inl ⟨hmay _ (by unfold mayK; rw [show okI 2 s x.c l.length = false from decide_eq_false (by omega)]; simp), rfl⟩) _ X.md
          · by_cases hs : s ≤ 2
            · simp (maxSteps := 1000000) (disch := first | omega | (simp only [sizeAlloc, sizeDrew, sizeSet, sizePut] <;> omega) | fail) only [GS, TT_eq, TTl, Nat.reduceAdd, Nat.reduceMul, Nat.reduceSub, Nat.reduceDiv, Nat.reduceMod, Nat.reducePow, Nat.reduceEqDiff, ↓reduceIte, reduceCtorEq, Int.reduceToNat, Int.reduceAdd, Int.reduceSub, Int.reduceMul, q2, c0, X.fx.r1]
              refine ⟨fok76, fMust_cps rp false 2 _ _ l.length _ _ X.fx.run.hp hsl (fun h => absurd h (by simp)) (fun _ => .inr ⟨_, rfl, hold_ex okT (rs := []) rfl ?_⟩)⟩
              simp (maxSteps := 1000000) (disch := first | omega | (simp only [sizeAlloc, sizeDrew, sizeSet, sizePut] <;> omega) | fail) only [GS, TT_eq, TTl, Nat.reduceAdd, Nat.reduceMul, Nat.reduceSub, Nat.reduceDiv, Nat.reduceMod, Nat.reducePow, Nat.reduceEqDiff, ↓reduceIte, reduceCtorEq, Int.reduceToNat, Int.reduceAdd, Int.reduceSub, Int.reduceMul]
              exact hRe 2 (.inl ⟨hmay _ (by unfold mayK; rw [show okI 2 s x.c l.length = false from decide_eq_false (by omega)]; simp), rfl⟩) _ X.md
            · by_cases hv0 : 0 ≤ x.c
              · by_cases hv1 : x.c < l.length
                · simp (maxSteps := 1000000) (disch := first | omega | (simp only [sizeAlloc, sizeDrew, sizeSet, sizePut] <;> omega) | fail) only [GS, TT_eq, TTl, Nat.reduceAdd, Nat.reduceMul, Nat.reduceSub, Nat.reduceDiv, Nat.reduceMod, Nat.reducePow, Nat.reduceEqDiff, ↓reduceIte, reduceCtorEq, Int.reduceToNat, Int.reduceAdd, Int.reduceSub, Int.reduceMul, q2, c0, X.fx.r1]
                  refine ⟨fok76, fMust_cps rp true 2 _ _ l.length _ _ X.fx.run.hp hsl (fun _ => .inl ⟨_, rfl, hold_ops okT (rs := []) rfl ?_⟩) (fun h => absurd h (by simp))⟩
                  simp (maxSteps := 1000000) (disch := first | omega | (simp only [sizeAlloc, sizeDrew, sizeSet, sizePut] <;> omega) | fail) only [GS, TT_eq, TTl, Nat.reduceAdd, Nat.reduceMul, Nat.reduceSub, Nat.reduceDiv, Nat.reduceMod, Nat.reducePow, Nat.reduceEqDiff, ↓reduceIte, reduceCtorEq, Int.reduceToNat, Int.reduceAdd, Int.reduceSub, Int.reduceMul]
                  exact ⟨⟨3, by omega, rfl, X, hA, fun _ => m1 (by omega), fun _ => m2 (by omega), fun _ => decide_eq_true (by omega)⟩, by omega⟩
                · simp (maxSteps := 1000000) (disch := first | omega | (simp only [sizeAlloc, sizeDrew, sizeSet, sizePut] <;> omega) | fail) only [GS, TT_eq, TTl, Nat.reduceAdd, Nat.reduceMul, Nat.reduceSub, Nat.reduceDiv, Nat.reduceMod, Nat.reducePow, Nat.reduceEqDiff, ↓reduceIte, reduceCtorEq, Int.reduceToNat, Int.reduceAdd, Int.reduceSub, Int.reduceMul, q2, c0, X.fx.r1]
                  refine ⟨fok76, fMust_cps rp false 2 _ _ l.length _ _ X.fx.run.hp hsl (fun h => absurd h (by simp)) (fun _ => .inr ⟨_, rfl, hold_ex okT (rs := []) rfl ?_⟩)⟩
                  simp (maxSteps := 1000000) (disch := first | omega | (simp only [sizeAlloc, sizeDrew, sizeSet, sizePut] <;> omega) | fail) only [GS, TT_eq, TTl, Nat.reduceAdd, Nat.reduceMul, Nat.reduceSub, Nat.reduceDiv, Nat.reduceMod, Nat.reducePow, Nat.reduceEqDiff, ↓reduceIte, reduceCtorEq, Int.reduceToNat, Int.reduceAdd, Int.reduceSub, Int.reduceMul]
                  exact hRe 2 (.inl ⟨hmay _ (by unfold mayK; rw [show okI 2 s x.c l.length = false from decide_eq_false (by omega)]; simp), rfl⟩) _ X.md
              · simp (maxSteps := 1000000) (disch := first | omega | (simp only [sizeAlloc, sizeDrew, sizeSet, sizePut] <;> omega) | fail) only [GS, TT_eq, TTl, Nat.reduceAdd, Nat.reduceMul, Nat.reduceSub, Nat.reduceDiv, Nat.reduceMod, Nat.reducePow, Nat.reduceEqDiff, ↓reduceIte, reduceCtorEq, Int.reduceToNat, Int.reduceAdd, Int.reduceSub, Int.reduceMul, q2, c0, X.fx.r1]
                refine ⟨fok76, fMust_cps rp false 2 _ _ l.length _ _ X.fx.run.hp hsl (fun h => absurd h (by simp)) (fun _ => .inr ⟨_, rfl, hold_ex okT (rs := []) rfl ?_⟩)⟩
                simp (maxSteps := 1000000) (disch := first | omega | (simp only [sizeAlloc, sizeDrew, sizeSet, sizePut] <;> omega) | fail) only [GS, TT_eq, TTl, Nat.reduceAdd, Nat.reduceMul, Nat.reduceSub, Nat.reduceDiv, Nat.reduceMod, Nat.reducePow, Nat.reduceEqDiff, ↓reduceIte, reduceCtorEq, Int.reduceToNat, Int.reduceAdd, Int.reduceSub, Int.reduceMul]
                exact hRe 2 (.inl ⟨hmay _ (by unfold mayK; rw [show okI 2 s x.c l.length = false from decide_eq_false (by omega)]; simp), rfl⟩) _ X.md
      · have e : k = 3 := by omega
        subst e
        have m1 := m1 (by omega)
        have m2 := m2 (by omega)
        have m3 := m3 (by omega)
        have cl : w5.cell? ⟨bx, 6, none⟩ = some (.slice xo x.list.length xcap) := by rw [← hsv]; exact X.fx.cl
        have hxl := hx.len
        simp (maxSteps := 1000000) (disch := first | omega | (simp only [sizeAlloc, sizeDrew, sizeSet, sizePut] <;> omega) | fail) only [GS, TT_eq, TTl, Nat.reduceAdd, Nat.reduceMul, Nat.reduceSub, Nat.reduceDiv, Nat.reduceMod, Nat.reducePow, Nat.reduceEqDiff, ↓reduceIte, reduceCtorEq, Int.reduceToNat, Int.reduceAdd, Int.reduceSub, Int.reduceMul, cl]
        refine hold_loop okT (rs := []) rfl [95] [9, 96, 97, 98, 99, 100, 101, 102, 103, 104, 105, 106, 107, 108, 109, 110, 111, 112] (fun vs w' => ∃ k : Nat, k ≤ x.list.length ∧ vs = [.int .i64 k] ∧ KX w w' bx kb rp (.slice sa seen.length sc) (.slice la l.length lc) seen l x s bn bt bl true fv ∧ (x.list.take k).all (fun v => decide (0 ≤ v ∧ v < l.length)) = true) (fun vs _ => match vs with | [.int _ i] => x.list.length - i.toNat | _ => 0) (by kernel_rfl) ⟨0, by omega, rfl, X, rfl⟩ ?_
        rintro vs w6 J6 ⟨k, hk, rfl, X, hall⟩
        by_cases hlt : k < x.list.length
        · have hrx := X.fx.inp.rd
          rw [hsv] at hrx
          obtain ⟨b1, o1, c1, e1, _, g1⟩ := hrx.at (by omega) (by omega)
          have f1 : w6.cell? ⟨b1, o1 + k, none⟩ = some (.int .i64 x.list[k]) := g1 k _ (getI hlt)
          rw [Value.slice.injEq] at e1
          obtain ⟨rfl, -, -⟩ := e1
          have hms := List.getElem_mem hlt
          have hvb := hx.list _ hms
          have htk : (x.list.take (k + 1)).all (fun v => decide (0 ≤ v ∧ v < l.length)) = decide (0 ≤ x.list[k] ∧ x.list[k] < l.length) := by rw [List.take_succ_eq_append_getElem hlt, List.all_append, hall]; simp
          have hno : ¬ (0 ≤ x.list[k] ∧ x.list[k] < (l.length : Int)) → x.list.all (fun v => decide (0 ≤ v ∧ v < (l.length : Int))) = false := fun hh => by rw [List.all_eq_false]; exact ⟨_, hms, by simpa using hh⟩
          generalize x.list[k] = v at f1 htk hno hvb
          by_cases hv0 : 0 ≤ v
          · by_cases hv1 : v < l.length
            · simp (maxSteps := 1000000) (disch := first | omega | (simp only [sizeAlloc, sizeDrew, sizeSet, sizePut] <;> omega) | fail) only [GS, TT_eq, TTl, Nat.reduceAdd, Nat.reduceMul, Nat.reduceSub, Nat.reduceDiv, Nat.reduceMod, Nat.reducePow, Nat.reduceEqDiff, ↓reduceIte, reduceCtorEq, Int.reduceToNat, Int.reduceAdd, Int.reduceSub, Int.reduceMul, f1, X.fx.r1]
              refine ⟨fok76, fMust_cps rp true 2 _ _ l.length _ _ X.fx.run.hp hsl (fun _ => .inl ⟨_, rfl, hold_ops okT (rs := []) rfl ?_⟩) (fun h => absurd h (by simp))⟩
              simp (maxSteps := 1000000) (disch := first | omega | (simp only [sizeAlloc, sizeDrew, sizeSet, sizePut] <;> omega) | fail) only [GS, TT_eq, TTl, Nat.reduceAdd, Nat.reduceMul, Nat.reduceSub, Nat.reduceDiv, Nat.reduceMod, Nat.reducePow, Nat.reduceEqDiff, ↓reduceIte, reduceCtorEq, Int.reduceToNat, Int.reduceAdd, Int.reduceSub, Int.reduceMul]
              exact ⟨⟨k + 1, by omega, rfl, X, by rw [htk]; simp [hv0, hv1]⟩, by omega⟩
            · simp (maxSteps := 1000000) (disch := first | omega | (simp only [sizeAlloc, sizeDrew, sizeSet, sizePut] <;> omega) | fail) only [GS, TT_eq, TTl, Nat.reduceAdd, Nat.reduceMul, Nat.reduceSub, Nat.reduceDiv, Nat.reduceMod, Nat.reducePow, Nat.reduceEqDiff, ↓reduceIte, reduceCtorEq, Int.reduceToNat, Int.reduceAdd, Int.reduceSub, Int.reduceMul, f1, X.fx.r1]
              refine ⟨fok76, fMust_cps rp false 2 _ _ l.length _ _ X.fx.run.hp hsl (fun h => absurd h (by simp)) (fun _ => .inr ⟨_, rfl, hold_ex okT (rs := []) rfl ?_⟩)⟩
              simp (maxSteps := 1000000) (disch := first | omega | (simp only [sizeAlloc, sizeDrew, sizeSet, sizePut] <;> omega) | fail) only [GS, TT_eq, TTl, Nat.reduceAdd, Nat.reduceMul, Nat.reduceSub, Nat.reduceDiv, Nat.reduceMod, Nat.reducePow, Nat.reduceEqDiff, ↓reduceIte, reduceCtorEq, Int.reduceToNat, Int.reduceAdd, Int.reduceSub, Int.reduceMul]
              exact hRe 2 (.inl ⟨hmay _ (by unfold mayK; rw [hno (fun hh => hv1 hh.2)]; simp), rfl⟩) _ X.md
          · simp (maxSteps := 1000000) (disch := first | omega | (simp only [sizeAlloc, sizeDrew, sizeSet, sizePut] <;> omega) | fail) only [GS, TT_eq, TTl, Nat.reduceAdd, Nat.reduceMul, Nat.reduceSub, Nat.reduceDiv, Nat.reduceMod, Nat.reducePow, Nat.reduceEqDiff, ↓reduceIte, reduceCtorEq, Int.reduceToNat, Int.reduceAdd, Int.reduceSub, Int.reduceMul, f1, X.fx.r1]
            refine ⟨fok76, fMust_cps rp false 2 _ _ l.length _ _ X.fx.run.hp hsl (fun h => absurd h (by simp)) (fun _ => .inr ⟨_, rfl, hold_ex okT (rs := []) rfl ?_⟩)⟩
            simp (maxSteps := 1000000) (disch := first | omega | (simp only [sizeAlloc, sizeDrew, sizeSet, sizePut] <;> omega) | fail) only [GS, TT_eq, TTl, Nat.reduceAdd, Nat.reduceMul, Nat.reduceSub, Nat.reduceDiv, Nat.reduceMod, Nat.reducePow, Nat.reduceEqDiff, ↓reduceIte, reduceCtorEq, Int.reduceToNat, Int.reduceAdd, Int.reduceSub, Int.reduceMul]
            exact hRe 2 (.inl ⟨hmay _ (by unfold mayK; rw [hno (fun hh => hv0 hh.1)]; simp), rfl⟩) _ X.md
        · have e : k = x.list.length := by omega
          subst e
          rw [List.take_length] at hall
          have hmy : mayS x l.length = true := hmay _ (by unfold mayK; rw [g1, g2, g3, m1, m2, m3, hall]; rfl)
          simp (maxSteps := 1000000) (disch := first | omega | (simp only [sizeAlloc, sizeDrew, sizeSet, sizePut] <;> omega) | fail) only [GS, TT_eq, TTl, Nat.reduceAdd, Nat.reduceMul, Nat.reduceSub, Nat.reduceDiv, Nat.reduceMod, Nat.reducePow, Nat.reduceEqDiff, ↓reduceIte, reduceCtorEq, Int.reduceToNat, Int.reduceAdd, Int.reduceSub, Int.reduceMul]
          refine hold_draw okT (rs := []) rfl [0, 0, 2, 6, 14, 0, 32, 0, 224, 480, 1022, 2047, 4095, 8191] [0, 1, 2, 3, 4, 5, 6, 7, 8, 9, 10, 11, 12, 13] (by kernel_rfl) (by kernel_rfl) ?_
          have X := X.mod (Mod.drewN 1 (Mod.refl [] _))
          have hown6 := ownsRow_mod hown X.md (by simp)
          have hz6 := X.md.size
          generalize w6.drewN 1 = w7 at X hown6 hz6 ⊢
          have c4 : w7.cell? ⟨kb, 4, none⟩ = some fv := by rw [cellOf X.kb]; rfl
          simp (maxSteps := 1000000) (disch := first | omega | (simp only [sizeAlloc, sizeDrew, sizeSet, sizePut] <;> omega) | fail) only [GS, TT_eq, TTl, Nat.reduceAdd, Nat.reduceMul, Nat.reduceSub, Nat.reduceDiv, Nat.reduceMod, Nat.reducePow, Nat.reduceEqDiff, ↓reduceIte, reduceCtorEq, Int.reduceToNat, Int.reduceAdd, Int.reduceSub, Int.reduceMul, X.fx.cd, X.fx.ca, X.fx.cb, X.fx.cc, X.fx.cn, X.fx.ct, X.fx.cl, X.fx.r1, c4]
          rw [X.fn rfl]
          refine call_do rp _ _ seen l x w7 _ _ X.fx.run X.fx.inp hmy (fun he w8 hN => ⟨(X.fx.mod hN).r1, hold_dops okT (rs := []) rfl ?_⟩) (fun he w8 hN fs' => hold_ex okT (rs := []) rfl ?_)
          · have F8 := X.fx.mod hN
            have hown8 := ownsRow_mod hown6 hN (by simp)
            have hz8 := hN.size
            have hbw8 : base ≤ w8.heap.size := by omega
            have hrl := ltOf F8.run.hp
            simp (maxSteps := 1000000) (disch := first | omega | (simp only [sizeAlloc, sizeDrew, sizeSet, sizePut] <;> omega) | fail) only [GS, TT_eq, TTl, Nat.reduceAdd, Nat.reduceMul, Nat.reduceSub, Nat.reduceDiv, Nat.reduceMod, Nat.reducePow, Nat.reduceEqDiff, ↓reduceIte, reduceCtorEq, Int.reduceToNat, Int.reduceAdd, Int.reduceSub, Int.reduceMul, F8.r1]
            refine hold_dappendN okT rfl rfl rfl rfl (by decide) base hown8 rfl rfl (news := [.string ⟨(doS seen l x).1.toArray⟩]) rfl (by decide) (by simp [Value.oneCell']) (by simp only; omega) (by unfold maxLen; omega) hbw8 fun v' w9 hown9 hM9 _ => ⟨?_, hold_dops okT (rs := []) rfl ?_⟩
            · simp (maxSteps := 1000000) only [GS, TT_eq, TTl, Nat.reduceAdd, Nat.reduceMul, Nat.reduceSub, Nat.reduceDiv, Nat.reduceMod, Nat.reducePow, Nat.reduceEqDiff, ↓reduceIte, reduceCtorEq, Int.reduceToNat, Int.reduceAdd, Int.reduceSub, Int.reduceMul]
            have hob : ∀ y ∈ (Value.slice la l.length lc).ownBlock.toList, base ≤ y := fun y hy => (hown8.lt y (by simpa using hy)).1
            have hp9 := hM9.get F8.run.hp (fun hy => by have := hob _ hy; omega)
            have c9 : w9.cell? ⟨rp, 1, none⟩ = some (.slice la l.length lc) := by rw [cellOf hp9]; rfl
            have z9 : w9.frozen? ⟨rp, 1, none⟩ = false := frozenOf hp9
            have ho9 := ownsRow_one hown9
            simp (maxSteps := 1000000) (disch := first | omega | (simp only [sizeAlloc, sizeDrew, sizeSet, sizePut] <;> omega) | fail) only [GS, TT_eq, TTl, Nat.reduceAdd, Nat.reduceMul, Nat.reduceSub, Nat.reduceDiv, Nat.reduceMod, Nat.reducePow, Nat.reduceEqDiff, ↓reduceIte, reduceCtorEq, Int.reduceToNat, Int.reduceAdd, Int.reduceSub, Int.reduceMul, c9, z9, cellsL_one ho9, ho9]
            refine hR0 hmy he v' _ (heapSet hp9) (ownsRow_mod ?_ ((Mod.refl [rp] w9).set (.inl (by simp)) _) (by simpa using hb)) ?_
            · rw [List.length_append, List.map_append]; exact hown9
            · exact ((((X.md.trans hN (by simp)).mono (S' := (Value.slice la l.length lc).ownBlock.toList) (by simp)).trans hM9 (fun y hy => .inl hy)).mono (fun y hy => List.mem_cons_of_mem _ hy)).set (.inl (by simp)) _
          · simp (maxSteps := 1000000) (disch := first | omega | (simp only [sizeAlloc, sizeDrew, sizeSet, sizePut] <;> omega) | fail) only [GS, TT_eq, TTl, Nat.reduceAdd, Nat.reduceMul, Nat.reduceSub, Nat.reduceDiv, Nat.reduceMod, Nat.reducePow, Nat.reduceEqDiff, ↓reduceIte, reduceCtorEq, Int.reduceToNat, Int.reduceAdd, Int.reduceSub, Int.reduceMul]
            exact hRe _ (.inr ⟨hmy, rfl, he⟩) _ (X.md.trans hN (by simp))
end Go.Proofs.Ytoladcdelaemoaa
