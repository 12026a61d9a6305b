/-
  ReceiptBack (walk).
-/
import Derived.Test.YtpcilobbohokcaaC4
set_option linter.unusedSimpArgs false
set_option linter.unusedVariables false
namespace Go.Proofs.Ytpcilobbohokcaa
open Go Go.Wk Go.RowKit
attribute [local irreducible] go Hold
open Go.Lib
theorem rdNil1 (w : World) : Rd w 1 (.slice none 0 0) 0 [] := ⟨rfl, none, 0, rfl, Nat.le_refl 0, fun j u hj => by simp at hj⟩
set_option maxRecDepth 20000 in
set_option maxHeartbeats 32000000 in
theorem rback_cps (t : List UInt8) (r s : Rcp) (rm rt sm st : Value) (more : List UInt8) (cut : Nat) (w : World) (R : Ending → World → Prop) (ht : t.length ≤ maxLen) (hmore : more.length ≤ maxLen) (hcut : cut ≤ 65535) (haA : RcpArg w r rm rt) (haB : RcpArg w s sm st) (hR : ∀ w', Mod [] w w' → R (.returned (.bool true)) w') :
    Calls Try.prog 3 #[.string ⟨t.toArray⟩, rcV r rm rt, rcV s sm st, .string ⟨more.toArray⟩, .int .u16 cut] w R := by
  have hlgA := fun w h => Long26_cps r rm rt w h
  have hlgB := fun w h => Long26_cps s sm st w h
  have hownA := fun w h => own26_cps r rm rt w h
  have hownB := fun w h => own26_cps s sm st w h
  have hencA := fun a b w h => eEncode_cps r a b w h
  have hencB := fun a b w h => eEncode_cps s a b w h
  have hinA := fun h => haA.in h
  have hinB := fun h => haB.in h
  have hsame := fun w h1 h2 h3 h4 R hR h5 h6 => Same26_cps r s rm rt sm st w R h5 h6 h1 h2 h3 h4 hR
  have orm : rm.oneCell' = true := by obtain ⟨a, c, e⟩ := haA.mbs.rd.slice; rw [e]; rfl
  have ort : rt.oneCell' = true := by obtain ⟨a, c, e⟩ := haA.trd.slice; rw [e]; rfl
  have osm : sm.oneCell' = true := by obtain ⟨a, c, e⟩ := haB.mbs.rd.slice; rw [e]; rfl
  have ost : st.oneCell' = true := by obtain ⟨a, c, e⟩ := haB.trd.slice; rw [e]; rfl
  have hA3 := fun w' (h : Mod [] w w') => (⟨haA.t1, haA.t2, haA.t3, haA.aud, ⟨haA.mbs.rd.mod h (by simp), haA.mbs.len, haA.mbs.dig, haA.mbs.org⟩, haA.trd.mod h (by simp), haA.tlen, haA.tdig⟩ : RcpArg w' r rm rt)
  have hB3 := fun w' (h : Mod [] w w') => (⟨haB.t1, haB.t2, haB.t3, haB.aud, ⟨haB.mbs.rd.mod h (by simp), haB.mbs.len, haB.mbs.dig, haB.mbs.org⟩, haB.trd.mod h (by simp), haB.tlen, haB.tdig⟩ : RcpArg w' s sm st)
  clear haA haB
  obtain ⟨⟨ra, rb, rc⟩, rd, rmbs, rtags⟩ := r
  obtain ⟨⟨sa, sb, sc⟩, sd, smbs, stags⟩ := s
  unfold rcV rcC at hlgA hlgB hownA hownB hencA hencB hsame ⊢
  simp only at hlgA hlgB hownA hownB hencA hencB hsame ⊢
  refine calls_go 4000 okT Try.func3 rfl (rs := [.tmp 10]) rfl Try.ntmps3 (args := [.string ⟨t.toArray⟩, .agg #[.int .i64 ra, .int .i64 rb, .int .i64 rc, .int .i64 rd, rm, rt], .agg #[.int .i64 sa, .int .i64 sb, .int .i64 sc, .int .i64 sd, sm, st], .string ⟨more.toArray⟩, .int .u16 cut]) ?_
  simp (maxSteps := 1000000) (disch := first | omega | (simp only [sizeAlloc, sizeDrew, sizeSet, sizePut] <;> omega) | fail) only [GS, TT_eq, TTl, Nat.reduceAdd, Nat.reduceMul, Nat.reduceSub, Nat.reduceDiv, Nat.reduceMod, Nat.reducePow, Nat.reduceEqDiff, ↓reduceIte, reduceCtorEq, Int.reduceToNat, Int.reduceAdd, Int.reduceSub, Int.reduceMul, orm, ort, osm, ost, cellsL_one orm, cellsL_one ort, cellsL_one osm, cellsL_one ost]
  have hM0 := ((Mod.refl [] w).alloc (.cells #[.int .i64 ra, .int .i64 rb, .int .i64 rc, .int .i64 rd, rm, rt] 27)).alloc (.cells #[.int .i64 sa, .int .i64 sb, .int .i64 sc, .int .i64 sd, sm, st] 27)
  have hA := heapAlloc (o' := .cells #[.int .i64 sa, .int .i64 sb, .int .i64 sc, .int .i64 sd, sm, st] 27) (heapNew (w := w) (o := .cells #[.int .i64 ra, .int .i64 rb, .int .i64 rc, .int .i64 rd, rm, rt] 27))
  have hB := heapNew (w := w.alloc (.cells #[.int .i64 ra, .int .i64 rb, .int .i64 rc, .int .i64 rd, rm, rt] 27)) (o := .cells #[.int .i64 sa, .int .i64 sb, .int .i64 sc, .int .i64 sd, sm, st] 27)
  rw [sizeAlloc] at hB
  generalize (w.alloc (.cells #[.int .i64 ra, .int .i64 rb, .int .i64 rc, .int .i64 rd, rm, rt] 27)).alloc (.cells #[.int .i64 sa, .int .i64 sb, .int .i64 sc, .int .i64 sd, sm, st] 27) = w1 at hM0 hA hB ⊢
  generalize hn : w.heap.size = n at *
  have cA := fun o => cellOf (o := o) hA
  have cB := fun o => cellOf (o := o) hB
  by_cases hlt : (20000 : Int) < ((t.length : Nat) : Int)
  · simp (maxSteps := 1000000) (disch := first | omega | (simp only [sizeAlloc, sizeDrew, sizeSet, sizePut] <;> omega) | fail) only [GS, TT_eq, TTl, Nat.reduceAdd, Nat.reduceMul, Nat.reduceSub, Nat.reduceDiv, Nat.reduceMod, Nat.reducePow, Nat.reduceEqDiff, ↓reduceIte, reduceCtorEq, Int.reduceToNat, Int.reduceAdd, Int.reduceSub, Int.reduceMul, hlt]
    refine ⟨fok8, alive26_cps _ _ fun w30 hM30 => .inl ⟨_, rfl, hold_ops okT (rs := [.tmp 10]) rfl ?_⟩⟩
    simp (maxSteps := 1000000) (disch := first | omega | (simp only [sizeAlloc, sizeDrew, sizeSet, sizePut] <;> omega) | fail) only [GS, TT_eq, TTl, Nat.reduceAdd, Nat.reduceMul, Nat.reduceSub, Nat.reduceDiv, Nat.reduceMod, Nat.reducePow, Nat.reduceEqDiff, ↓reduceIte, reduceCtorEq, Int.reduceToNat, Int.reduceAdd, Int.reduceSub, Int.reduceMul]
    exact hR _ (hM0.trans hM30 (by simp))
  simp (maxSteps := 1000000) (disch := first | omega | (simp only [sizeAlloc, sizeDrew, sizeSet, sizePut] <;> omega) | fail) only [GS, TT_eq, TTl, Nat.reduceAdd, Nat.reduceMul, Nat.reduceSub, Nat.reduceDiv, Nat.reduceMod, Nat.reducePow, Nat.reduceEqDiff, ↓reduceIte, reduceCtorEq, Int.reduceToNat, Int.reduceAdd, Int.reduceSub, Int.reduceMul, cA, hlt]
  refine ⟨fok7, hlgA _ (hA3 _ hM0) _ fun w2 hM2 => .inl ⟨_, rfl, hold_ops okT (rs := [.tmp 10]) rfl ?_⟩⟩
  have hM02 := hM0.trans hM2 (by simp)
  have hAA := hM2.get hA (by simp)
  have hBB := hM2.get hB (by simp)
  have cA := fun o => cellOf (o := o) hAA
  have cB := fun o => cellOf (o := o) hBB
  cases hl1 : longR ⟨(ra, rb, rc), rd, rmbs, rtags⟩
  rotate_left
  · simp (maxSteps := 1000000) (disch := first | omega | (simp only [sizeAlloc, sizeDrew, sizeSet, sizePut] <;> omega) | fail) only [GS, TT_eq, TTl, Nat.reduceAdd, Nat.reduceMul, Nat.reduceSub, Nat.reduceDiv, Nat.reduceMod, Nat.reducePow, Nat.reduceEqDiff, ↓reduceIte, reduceCtorEq, Int.reduceToNat, Int.reduceAdd, Int.reduceSub, Int.reduceMul]
    refine ⟨fok8, alive26_cps _ _ fun w30 hM30 => .inl ⟨_, rfl, hold_ops okT (rs := [.tmp 10]) rfl ?_⟩⟩
    simp (maxSteps := 1000000) (disch := first | omega | (simp only [sizeAlloc, sizeDrew, sizeSet, sizePut] <;> omega) | fail) only [GS, TT_eq, TTl, Nat.reduceAdd, Nat.reduceMul, Nat.reduceSub, Nat.reduceDiv, Nat.reduceMod, Nat.reducePow, Nat.reduceEqDiff, ↓reduceIte, reduceCtorEq, Int.reduceToNat, Int.reduceAdd, Int.reduceSub, Int.reduceMul]
    exact hR _ (hM02.trans hM30 (by simp))
  simp (maxSteps := 1000000) (disch := first | omega | (simp only [sizeAlloc, sizeDrew, sizeSet, sizePut] <;> omega) | fail) only [GS, TT_eq, TTl, Nat.reduceAdd, Nat.reduceMul, Nat.reduceSub, Nat.reduceDiv, Nat.reduceMod, Nat.reducePow, Nat.reduceEqDiff, ↓reduceIte, reduceCtorEq, Int.reduceToNat, Int.reduceAdd, Int.reduceSub, Int.reduceMul, cB]
  refine ⟨fok7, hlgB _ (hB3 _ hM02) _ fun w3 hM3 => .inl ⟨_, rfl, hold_ops okT (rs := [.tmp 10]) rfl ?_⟩⟩
  have hM03 := hM02.trans hM3 (by simp)
  have hA3' := hM3.get hAA (by simp)
  have hB3' := hM3.get hBB (by simp)
  cases hl2 : longR ⟨(sa, sb, sc), sd, smbs, stags⟩
  rotate_left
  · simp (maxSteps := 1000000) (disch := first | omega | (simp only [sizeAlloc, sizeDrew, sizeSet, sizePut] <;> omega) | fail) only [GS, TT_eq, TTl, Nat.reduceAdd, Nat.reduceMul, Nat.reduceSub, Nat.reduceDiv, Nat.reduceMod, Nat.reducePow, Nat.reduceEqDiff, ↓reduceIte, reduceCtorEq, Int.reduceToNat, Int.reduceAdd, Int.reduceSub, Int.reduceMul]
    refine ⟨fok8, alive26_cps _ _ fun w30 hM30 => .inl ⟨_, rfl, hold_ops okT (rs := [.tmp 10]) rfl ?_⟩⟩
    simp (maxSteps := 1000000) (disch := first | omega | (simp only [sizeAlloc, sizeDrew, sizeSet, sizePut] <;> omega) | fail) only [GS, TT_eq, TTl, Nat.reduceAdd, Nat.reduceMul, Nat.reduceSub, Nat.reduceDiv, Nat.reduceMod, Nat.reducePow, Nat.reduceEqDiff, ↓reduceIte, reduceCtorEq, Int.reduceToNat, Int.reduceAdd, Int.reduceSub, Int.reduceMul]
    exact hR _ (hM03.trans hM30 (by simp))
  have hmA := hinA hl1
  have hmB := hinB hl2
  by_cases hlm : (20000 : Int) < ((more.length : Nat) : Int)
  · simp (maxSteps := 1000000) (disch := first | omega | (simp only [sizeAlloc, sizeDrew, sizeSet, sizePut] <;> omega) | fail) only [GS, TT_eq, TTl, Nat.reduceAdd, Nat.reduceMul, Nat.reduceSub, Nat.reduceDiv, Nat.reduceMod, Nat.reducePow, Nat.reduceEqDiff, ↓reduceIte, reduceCtorEq, Int.reduceToNat, Int.reduceAdd, Int.reduceSub, Int.reduceMul, hlm]
    refine ⟨fok8, alive26_cps _ _ fun w30 hM30 => .inl ⟨_, rfl, hold_ops okT (rs := [.tmp 10]) rfl ?_⟩⟩
    simp (maxSteps := 1000000) (disch := first | omega | (simp only [sizeAlloc, sizeDrew, sizeSet, sizePut] <;> omega) | fail) only [GS, TT_eq, TTl, Nat.reduceAdd, Nat.reduceMul, Nat.reduceSub, Nat.reduceDiv, Nat.reduceMod, Nat.reducePow, Nat.reduceEqDiff, ↓reduceIte, reduceCtorEq, Int.reduceToNat, Int.reduceAdd, Int.reduceSub, Int.reduceMul]
    exact hR _ (hM03.trans hM30 (by simp))
  replace hsame := fun w h1 h2 h3 h4 R hR => hsame w h1 h2 h3 h4 R hR hmA.mlen hmA.tlen
  clear hA hB hM0 hAA hBB cA cB hM2 hM02 hM3 hlgA hlgB hA3 hB3 hl1 hl2 hinA hinB
  simp (maxSteps := 1000000) (disch := first | omega | (simp only [sizeAlloc, sizeDrew, sizeSet, sizePut] <;> omega) | fail) only [GS, TT_eq, TTl, Nat.reduceAdd, Nat.reduceMul, Nat.reduceSub, Nat.reduceDiv, Nat.reduceMod, Nat.reducePow, Nat.reduceEqDiff, ↓reduceIte, reduceCtorEq, Int.reduceToNat, Int.reduceAdd, Int.reduceSub, Int.reduceMul, hlm]
  refine ⟨fok9, eDecode_cps t ht _ _ (fun x xm xt w4 hx how hot hM4 => .inl ⟨_, rfl, hold_ops okT (rs := [.tmp 10]) rfl ?_⟩) (fun c w4 hx hM4 => .inl ⟨_, rfl, hold_ops okT (rs := [.tmp 10]) rfl ?_⟩)⟩
  · obtain ⟨hex, hmx, hckt⟩ := of_rc hx
    have hlx := (may_is hmx).2.2.2.1
    have hencX := fun w h => eEncode_cps x xm xt w h
    have hchX := fun w h => eCheck_cps x xm xt w h
    rw [hex] at hencX
    rw [if_pos hmx] at hchX
    have hinX := rcpIn_of hmx (Rd.own how) (Rd.own hot)
    have hinX' := fun w' (h : Mod [] w4 w') => hinX.mod h
    have oxm := ownsRow_one how
    have oxt := ownsRow_one hot
    have hM04 := hM03.trans hM4 (by simp)
    have hA4 := hM4.get hA3' (by simp)
    have hB4 := hM4.get hB3' (by simp)
    obtain ⟨pm, cm, exm⟩ := (Rd.own how).slice
    obtain ⟨pt, ct, ext⟩ := (Rd.own hot).slice
    clear hx hex hmx how hot hinX hM03 hM4 hA3' hB3'
    obtain ⟨⟨xa, xb, xc⟩, xd, xmbs, xtags⟩ := x
    unfold rcV rcC at hencX hchX ⊢
    unfold stV at hencX
    simp only at hencX hchX hinX' hlx exm ext ⊢
    simp (maxSteps := 1000000) (disch := first | omega | (simp only [sizeAlloc, sizeDrew, sizeSet, sizePut] <;> omega) | fail) only [GS, TT_eq, TTl, Nat.reduceAdd, Nat.reduceMul, Nat.reduceSub, Nat.reduceDiv, Nat.reduceMod, Nat.reducePow, Nat.reduceEqDiff, ↓reduceIte, reduceCtorEq, Int.reduceToNat, Int.reduceAdd, Int.reduceSub, Int.reduceMul, cellsL_one oxm, oxm, cellsL_one oxt, oxt]
    have hhX : (((((((w4.alloc (.cells #[.int .i64 0, .int .i64 0, .int .i64 0, .int .i64 0, .slice none 0 0, .slice none 0 0] 27)).setCell ⟨w4.heap.size, 0, none⟩ (.int .i64 xa)).setCell ⟨w4.heap.size, 1, none⟩ (.int .i64 xb)).setCell ⟨w4.heap.size, 2, none⟩ (.int .i64 xc)).setCell ⟨w4.heap.size, 3, none⟩ (.int .i64 xd)).setCell ⟨w4.heap.size, 4, none⟩ xm).setCell ⟨w4.heap.size, 5, none⟩ xt).heap[w4.heap.size]? = _ := st6 (heapNew (w := w4) (o := .cells #[.int .i64 0, .int .i64 0, .int .i64 0, .int .i64 0, .slice none 0 0, .slice none 0 0] 27))
    have hMX : Mod [] w4 (((((((w4.alloc (.cells #[.int .i64 0, .int .i64 0, .int .i64 0, .int .i64 0, .slice none 0 0, .slice none 0 0] 27)).setCell ⟨w4.heap.size, 0, none⟩ (.int .i64 xa)).setCell ⟨w4.heap.size, 1, none⟩ (.int .i64 xb)).setCell ⟨w4.heap.size, 2, none⟩ (.int .i64 xc)).setCell ⟨w4.heap.size, 3, none⟩ (.int .i64 xd)).setCell ⟨w4.heap.size, 4, none⟩ xm).setCell ⟨w4.heap.size, 5, none⟩ xt) := ((((((((Mod.refl [] w4).alloc (.cells #[.int .i64 0, .int .i64 0, .int .i64 0, .int .i64 0, .slice none 0 0, .slice none 0 0] 27)).set (p := ⟨w4.heap.size, 0, none⟩) (.inr (Nat.le_refl _)) (.int .i64 xa)).set (p := ⟨w4.heap.size, 1, none⟩) (.inr (Nat.le_refl _)) (.int .i64 xb)).set (p := ⟨w4.heap.size, 2, none⟩) (.inr (Nat.le_refl _)) (.int .i64 xc)).set (p := ⟨w4.heap.size, 3, none⟩) (.inr (Nat.le_refl _)) (.int .i64 xd)).set (p := ⟨w4.heap.size, 4, none⟩) (.inr (Nat.le_refl _)) xm).set (p := ⟨w4.heap.size, 5, none⟩) (.inr (Nat.le_refl _)) xt)
    revert hhX hMX
    generalize (((((((w4.alloc (.cells #[.int .i64 0, .int .i64 0, .int .i64 0, .int .i64 0, .slice none 0 0, .slice none 0 0] 27)).setCell ⟨w4.heap.size, 0, none⟩ (.int .i64 xa)).setCell ⟨w4.heap.size, 1, none⟩ (.int .i64 xb)).setCell ⟨w4.heap.size, 2, none⟩ (.int .i64 xc)).setCell ⟨w4.heap.size, 3, none⟩ (.int .i64 xd)).setCell ⟨w4.heap.size, 4, none⟩ xm).setCell ⟨w4.heap.size, 5, none⟩ xt) = w5
    generalize w4.heap.size = bx
    intro hhX hMX
    refine ⟨fok10, hencX _ (hinX' _ hMX) _ fun w6 hM6 => .inl ⟨_, rfl, hold_ops okT (rs := [.tmp 10]) rfl ?_⟩⟩
    have hM46 := hMX.trans hM6 (by simp)
    have c6 := fun o => cellOf (o := o) (hM6.get hhX (by simp))
    simp (maxSteps := 1000000) (disch := first | omega | (simp only [sizeAlloc, sizeDrew, sizeSet, sizePut] <;> omega) | fail) only [GS, TT_eq, TTl, Nat.reduceAdd, Nat.reduceMul, Nat.reduceSub, Nat.reduceDiv, Nat.reduceMod, Nat.reducePow, Nat.reduceEqDiff, ↓reduceIte, reduceCtorEq, Int.reduceToNat, Int.reduceAdd, Int.reduceSub, Int.reduceMul, c6, eq_self]
    refine ⟨fok11, hchX _ (hinX' _ hM46) _ fun w7 hM7 => .inl ⟨_, rfl, hold_ops okT (rs := [.tmp 10]) rfl ?_⟩⟩
    have hM47 := hM46.trans hM7 (by simp)
    have c7 := fun o => cellOf (o := o) (hM7.get (hM6.get hhX (by simp)) (by simp))
    subst exm ext
    have hlx2 : ((xmbs.length : Nat) : Int) = ((xtags.length : Nat) : Int) := by omega
    simp (maxSteps := 1000000) (disch := first | omega | (simp only [sizeAlloc, sizeDrew, sizeSet, sizePut] <;> omega) | fail) only [GS, TT_eq, TTl, Nat.reduceAdd, Nat.reduceMul, Nat.reduceSub, Nat.reduceDiv, Nat.reduceMod, Nat.reducePow, Nat.reduceEqDiff, ↓reduceIte, reduceCtorEq, Int.reduceToNat, Int.reduceAdd, Int.reduceSub, Int.reduceMul, c7, hlx2]
    refine ⟨fok12, tCheck_cps t ht _ _ fun w8 hM8 => .inl ⟨_, rfl, hold_ops okT (rs := [.tmp 10]) rfl ?_⟩⟩
    rw [hckt]
    have hM48 := hM47.trans hM8 (by simp)
    have hMR := hM04.trans hM48 (by simp)
    have hAR := hM48.get hA4 (by simp)
    have hBR := hM48.get hB4 (by simp)
    clear hMX hM46 hM6 hM7 hM47 hM8 hM48 hM04 hA4 hB4 hhX hencX hchX hinX' c6 c7
    have cR := fun o => cellOf (o := o) hAR
    simp (maxSteps := 1000000) (disch := first | omega | (simp only [sizeAlloc, sizeDrew, sizeSet, sizePut] <;> omega) | fail) only [GS, TT_eq, TTl, Nat.reduceAdd, Nat.reduceMul, Nat.reduceSub, Nat.reduceDiv, Nat.reduceMod, Nat.reducePow, Nat.reduceEqDiff, ↓reduceIte, reduceCtorEq, Int.reduceToNat, Int.reduceAdd, Int.reduceSub, Int.reduceMul, cR]
    refine ⟨fok14, hownA _ (hmA.mod hMR) _ fun sv1 su1 w20 how1 hot1 hM20 => .inl ⟨_, rfl, hold_ops okT (rs := [.tmp 10]) rfl ?_⟩⟩
    simp (maxSteps := 1000000) (disch := first | omega | (simp only [sizeAlloc, sizeDrew, sizeSet, sizePut] <;> omega) | fail) only [GS, TT_eq, TTl, Nat.reduceAdd, Nat.reduceMul, Nat.reduceSub, Nat.reduceDiv, Nat.reduceMod, Nat.reducePow, Nat.reduceEqDiff, ↓reduceIte, reduceCtorEq, Int.reduceToNat, Int.reduceAdd, Int.reduceSub, Int.reduceMul]
    refine ⟨fok10, hencA sv1 su1 _ ⟨hmA.aud, hmA.mlen, hmA.mdig, Rd.own how1, hmA.tlen, hmA.tdig, Rd.own hot1⟩ _ fun w21 hM21 => .inl ⟨_, rfl, hold_ops okT (rs := [.tmp 10]) rfl ?_⟩⟩
    have hM1 := (hMR.trans hM20 (by simp)).trans hM21 (by simp)
    have hA1 := (hM20.trans hM21 (by simp)).get hAR (by simp)
    have hB1 := (hM20.trans hM21 (by simp)).get hBR (by simp)
    have c1 := fun o => cellOf (o := o) hA1
    have d1 := fun o => cellOf (o := o) hB1
    clear hM20 hM21 how1 hot1 hAR hBR hMR
    unfold stV
    simp (maxSteps := 1000000) (disch := first | omega | (simp only [sizeAlloc, sizeDrew, sizeSet, sizePut] <;> omega) | fail) only [GS, TT_eq, TTl, Nat.reduceAdd, Nat.reduceMul, Nat.reduceSub, Nat.reduceDiv, Nat.reduceMod, Nat.reducePow, Nat.reduceEqDiff, ↓reduceIte, reduceCtorEq, Int.reduceToNat, Int.reduceAdd, Int.reduceSub, Int.reduceMul, d1]
    refine ⟨fok14, hownB _ (hmB.mod hM1) _ fun sv2 su2 w22 how2 hot2 hM22 => .inl ⟨_, rfl, hold_ops okT (rs := [.tmp 10]) rfl ?_⟩⟩
    simp (maxSteps := 1000000) (disch := first | omega | (simp only [sizeAlloc, sizeDrew, sizeSet, sizePut] <;> omega) | fail) only [GS, TT_eq, TTl, Nat.reduceAdd, Nat.reduceMul, Nat.reduceSub, Nat.reduceDiv, Nat.reduceMod, Nat.reducePow, Nat.reduceEqDiff, ↓reduceIte, reduceCtorEq, Int.reduceToNat, Int.reduceAdd, Int.reduceSub, Int.reduceMul]
    refine ⟨fok10, hencB sv2 su2 _ ⟨hmB.aud, hmB.mlen, hmB.mdig, Rd.own how2, hmB.tlen, hmB.tdig, Rd.own hot2⟩ _ fun w23 hM23 => .inl ⟨_, rfl, hold_ops okT (rs := [.tmp 10]) rfl ?_⟩⟩
    have hM2 := (hM1.trans hM22 (by simp)).trans hM23 (by simp)
    have hA2 := (hM22.trans hM23 (by simp)).get hA1 (by simp)
    have hB2 := (hM22.trans hM23 (by simp)).get hB1 (by simp)
    have c2 := fun o => cellOf (o := o) hA2
    have d2 := fun o => cellOf (o := o) hB2
    clear hM22 hM23 how2 hot2 c1 d1 hA1 hB1 hM1
    unfold stV
    generalize hPa : encR ⟨(ra, rb, rc), rd, rmbs, rtags⟩ = Pa at *
    generalize hPb : encR ⟨(sa, sb, sc), sd, smbs, stags⟩ = Pb at *
    obtain ⟨a, f⟩ := Pa
    obtain ⟨b, g⟩ := Pb
    simp only
    by_cases hf : f = 0
    rotate_left
    · simp (maxSteps := 1000000) (disch := first | omega | (simp only [sizeAlloc, sizeDrew, sizeSet, sizePut] <;> omega) | fail) only [GS, TT_eq, TTl, Nat.reduceAdd, Nat.reduceMul, Nat.reduceSub, Nat.reduceDiv, Nat.reduceMod, Nat.reducePow, Nat.reduceEqDiff, ↓reduceIte, reduceCtorEq, Int.reduceToNat, Int.reduceAdd, Int.reduceSub, Int.reduceMul, hf]
      refine ⟨fok8, alive26_cps _ _ fun w30 hM30 => .inl ⟨_, rfl, hold_ops okT (rs := [.tmp 10]) rfl ?_⟩⟩
      simp (maxSteps := 1000000) (disch := first | omega | (simp only [sizeAlloc, sizeDrew, sizeSet, sizePut] <;> omega) | fail) only [GS, TT_eq, TTl, Nat.reduceAdd, Nat.reduceMul, Nat.reduceSub, Nat.reduceDiv, Nat.reduceMod, Nat.reducePow, Nat.reduceEqDiff, ↓reduceIte, reduceCtorEq, Int.reduceToNat, Int.reduceAdd, Int.reduceSub, Int.reduceMul]
      exact hR _ (hM2.trans hM30 (by simp))
    subst hf
    obtain ⟨hda, hmya, hcka⟩ := rc_back hPa
    obtain ⟨-, -, hla, hla1⟩ := check0 hcka
    have hane : ¬ a = [] := fun e => by rw [e] at hla1; simp at hla1
    have hcmlt := Nat.mod_lt cut (show 0 < a.length by omega)
    have htm : ((cut : Nat) : Int).tmod ((a.length : Nat) : Int) = ((cut % a.length : Nat) : Int) := (Int.ofNat_tmod _ _).symm
    generalize cut % a.length = cm at hcmlt htm
    have hsl : ∀ r', decRc (a.take cm) = .ok r' → False := fun r' h' => by
      have h2 := (of_rc h').2.2
      have h3 := pre_term (x := a.drop cm) h2 (by rw [List.take_append_drop]; exact hcka)
      have h4 := congrArg List.length h3
      rw [List.length_drop, List.length_nil] at h4
      omega
    by_cases hg : g = 0
    rotate_left
    · simp (maxSteps := 1000000) (disch := first | omega | (simp only [sizeAlloc, sizeDrew, sizeSet, sizePut] <;> omega) | fail) only [GS, TT_eq, TTl, Nat.reduceAdd, Nat.reduceMul, Nat.reduceSub, Nat.reduceDiv, Nat.reduceMod, Nat.reducePow, Nat.reduceEqDiff, ↓reduceIte, reduceCtorEq, Int.reduceToNat, Int.reduceAdd, Int.reduceSub, Int.reduceMul, hg, hane, htm, Int.toNat_natCast]
      have hsz31 := hM2.size
      have htl : (a.take cm).length ≤ maxLen := by rw [List.length_take]; unfold maxLen; omega
      refine ⟨fok9, eDecode_cps (a.take cm) htl _ _ (fun r' _ _ _ hr' _ _ _ => absurd (hsl r' hr') id) (fun c' w31 hc' hM31 => .inl ⟨_, rfl, hold_ops okT (rs := [.tmp 10]) rfl ?_⟩)⟩
      have hc0' : ¬ c' = 0 := by have := (decRc_err hc').1; omega
      have hM031 := hM2.trans hM31 (by simp)
      have hs31 := hM031.size
      unfold rcZ
      simp (maxSteps := 1000000) (disch := first | omega | (simp only [sizeAlloc, sizeDrew, sizeSet, sizePut] <;> omega) | fail) only [GS, TT_eq, TTl, Nat.reduceAdd, Nat.reduceMul, Nat.reduceSub, Nat.reduceDiv, Nat.reduceMod, Nat.reducePow, Nat.reduceEqDiff, ↓reduceIte, reduceCtorEq, Int.reduceToNat, Int.reduceAdd, Int.reduceSub, Int.reduceMul, hc0']
      have hM32 : Mod [] w (((((((w31.alloc (.cells #[.int .i64 0, .int .i64 0, .int .i64 0, .int .i64 0, .slice none 0 0, .slice none 0 0] 27)).setCell ⟨w31.heap.size, 0, none⟩ (.int .i64 0)).setCell ⟨w31.heap.size, 1, none⟩ (.int .i64 0)).setCell ⟨w31.heap.size, 2, none⟩ (.int .i64 0)).setCell ⟨w31.heap.size, 3, none⟩ (.int .i64 0)).setCell ⟨w31.heap.size, 4, none⟩ (.slice none 0 0)).setCell ⟨w31.heap.size, 5, none⟩ (.slice none 0 0)) := (((((((hM031.alloc (.cells #[.int .i64 0, .int .i64 0, .int .i64 0, .int .i64 0, .slice none 0 0, .slice none 0 0] 27)).set (p := ⟨w31.heap.size, 0, none⟩) (.inr hs31) (.int .i64 0)).set (p := ⟨w31.heap.size, 1, none⟩) (.inr hs31) (.int .i64 0)).set (p := ⟨w31.heap.size, 2, none⟩) (.inr hs31) (.int .i64 0)).set (p := ⟨w31.heap.size, 3, none⟩) (.inr hs31) (.int .i64 0)).set (p := ⟨w31.heap.size, 4, none⟩) (.inr hs31) (.slice none 0 0)).set (p := ⟨w31.heap.size, 5, none⟩) (.inr hs31) (.slice none 0 0))
      revert hM32
      generalize (((((((w31.alloc (.cells #[.int .i64 0, .int .i64 0, .int .i64 0, .int .i64 0, .slice none 0 0, .slice none 0 0] 27)).setCell ⟨w31.heap.size, 0, none⟩ (.int .i64 0)).setCell ⟨w31.heap.size, 1, none⟩ (.int .i64 0)).setCell ⟨w31.heap.size, 2, none⟩ (.int .i64 0)).setCell ⟨w31.heap.size, 3, none⟩ (.int .i64 0)).setCell ⟨w31.heap.size, 4, none⟩ (.slice none 0 0)).setCell ⟨w31.heap.size, 5, none⟩ (.slice none 0 0)) = w32
      generalize w31.heap.size = b31
      intro hM32
      have htl2 : (a ++ more).length ≤ maxLen := by rw [List.length_append]; unfold maxLen; omega
      cases more with
      | nil =>
        simp (maxSteps := 1000000) (disch := first | omega | (simp only [sizeAlloc, sizeDrew, sizeSet, sizePut] <;> omega) | fail) only [GS, TT_eq, TTl, Nat.reduceAdd, Nat.reduceMul, Nat.reduceSub, Nat.reduceDiv, Nat.reduceMod, Nat.reducePow, Nat.reduceEqDiff, ↓reduceIte, reduceCtorEq, Int.reduceToNat, Int.reduceAdd, Int.reduceSub, Int.reduceMul, List.append_nil]
        refine ⟨fok9, eDecode_cps a (by unfold maxLen; omega) _ _ (fun r' m' t' w33 hr' hm' ht' hM33 => .inl ⟨_, rfl, hold_ops okT (rs := [.tmp 10]) rfl ?_⟩) (fun c2 w33 hc2 hM33 => by rw [hda] at hc2; simp at hc2)⟩
        have hM033 := hM32.trans hM33 (by simp)
        have hs33 := hM033.size
        have om' := ownsRow_one hm'
        have ot' := ownsRow_one ht'
        obtain ⟨⟨ya, yb, yc⟩, yd, ymbs, ytags⟩ := r'
        unfold rcV rcC
        simp only
        simp (maxSteps := 1000000) (disch := first | omega | (simp only [sizeAlloc, sizeDrew, sizeSet, sizePut] <;> omega) | fail) only [GS, TT_eq, TTl, Nat.reduceAdd, Nat.reduceMul, Nat.reduceSub, Nat.reduceDiv, Nat.reduceMod, Nat.reducePow, Nat.reduceEqDiff, ↓reduceIte, reduceCtorEq, Int.reduceToNat, Int.reduceAdd, Int.reduceSub, Int.reduceMul, hc0', cellsL_one om', om', cellsL_one ot', ot', eq_self]
        have hM34 : Mod [] w (((((((w33.alloc (.cells #[.int .i64 0, .int .i64 0, .int .i64 0, .int .i64 0, .slice none 0 0, .slice none 0 0] 27)).setCell ⟨w33.heap.size, 0, none⟩ (.int .i64 ya)).setCell ⟨w33.heap.size, 1, none⟩ (.int .i64 yb)).setCell ⟨w33.heap.size, 2, none⟩ (.int .i64 yc)).setCell ⟨w33.heap.size, 3, none⟩ (.int .i64 yd)).setCell ⟨w33.heap.size, 4, none⟩ m').setCell ⟨w33.heap.size, 5, none⟩ t') := (((((((hM033.alloc (.cells #[.int .i64 0, .int .i64 0, .int .i64 0, .int .i64 0, .slice none 0 0, .slice none 0 0] 27)).set (p := ⟨w33.heap.size, 0, none⟩) (.inr hs33) (.int .i64 ya)).set (p := ⟨w33.heap.size, 1, none⟩) (.inr hs33) (.int .i64 yb)).set (p := ⟨w33.heap.size, 2, none⟩) (.inr hs33) (.int .i64 yc)).set (p := ⟨w33.heap.size, 3, none⟩) (.inr hs33) (.int .i64 yd)).set (p := ⟨w33.heap.size, 4, none⟩) (.inr hs33) m').set (p := ⟨w33.heap.size, 5, none⟩) (.inr hs33) t')
        revert hM34
        generalize (((((((w33.alloc (.cells #[.int .i64 0, .int .i64 0, .int .i64 0, .int .i64 0, .slice none 0 0, .slice none 0 0] 27)).setCell ⟨w33.heap.size, 0, none⟩ (.int .i64 ya)).setCell ⟨w33.heap.size, 1, none⟩ (.int .i64 yb)).setCell ⟨w33.heap.size, 2, none⟩ (.int .i64 yc)).setCell ⟨w33.heap.size, 3, none⟩ (.int .i64 yd)).setCell ⟨w33.heap.size, 4, none⟩ m').setCell ⟨w33.heap.size, 5, none⟩ t') = w34
        intro hM34
        refine ⟨fok8, alive26_cps _ _ fun w30 hM30 => .inl ⟨_, rfl, hold_ops okT (rs := [.tmp 10]) rfl ?_⟩⟩
        simp (maxSteps := 1000000) (disch := first | omega | (simp only [sizeAlloc, sizeDrew, sizeSet, sizePut] <;> omega) | fail) only [GS, TT_eq, TTl, Nat.reduceAdd, Nat.reduceMul, Nat.reduceSub, Nat.reduceDiv, Nat.reduceMod, Nat.reducePow, Nat.reduceEqDiff, ↓reduceIte, reduceCtorEq, Int.reduceToNat, Int.reduceAdd, Int.reduceSub, Int.reduceMul]
        exact hR _ (hM34.trans hM30 (by simp))
      | cons m0 mr =>
        have hse : ∀ r', decRc (a ++ (m0 :: mr)) = .ok r' → False := fun r' h' => by
          have := pre_term hcka (of_rc h').2.2
          simp at this
        simp (maxSteps := 1000000) (disch := first | omega | (simp only [sizeAlloc, sizeDrew, sizeSet, sizePut] <;> omega) | fail) only [GS, TT_eq, TTl, Nat.reduceAdd, Nat.reduceMul, Nat.reduceSub, Nat.reduceDiv, Nat.reduceMod, Nat.reducePow, Nat.reduceEqDiff, ↓reduceIte, reduceCtorEq, Int.reduceToNat, Int.reduceAdd, Int.reduceSub, Int.reduceMul]
        refine ⟨fok9, eDecode_cps (a ++ (m0 :: mr)) htl2 _ _ (fun r' _ _ _ hr' _ _ _ => absurd (hse r' hr') id) (fun c2 w33 hc2 hM33 => .inl ⟨_, rfl, hold_ops okT (rs := [.tmp 10]) rfl ?_⟩)⟩
        have hM033 := hM32.trans hM33 (by simp)
        have hs33 := hM033.size
        have hc20 : ¬ c2 = 0 := by have := (decRc_err hc2).1; omega
        unfold rcZ
        simp (maxSteps := 1000000) (disch := first | omega | (simp only [sizeAlloc, sizeDrew, sizeSet, sizePut] <;> omega) | fail) only [GS, TT_eq, TTl, Nat.reduceAdd, Nat.reduceMul, Nat.reduceSub, Nat.reduceDiv, Nat.reduceMod, Nat.reducePow, Nat.reduceEqDiff, ↓reduceIte, reduceCtorEq, Int.reduceToNat, Int.reduceAdd, Int.reduceSub, Int.reduceMul, hc0', hc20]
        have hM34 : Mod [] w (((((((w33.alloc (.cells #[.int .i64 0, .int .i64 0, .int .i64 0, .int .i64 0, .slice none 0 0, .slice none 0 0] 27)).setCell ⟨w33.heap.size, 0, none⟩ (.int .i64 0)).setCell ⟨w33.heap.size, 1, none⟩ (.int .i64 0)).setCell ⟨w33.heap.size, 2, none⟩ (.int .i64 0)).setCell ⟨w33.heap.size, 3, none⟩ (.int .i64 0)).setCell ⟨w33.heap.size, 4, none⟩ (.slice none 0 0)).setCell ⟨w33.heap.size, 5, none⟩ (.slice none 0 0)) := (((((((hM033.alloc (.cells #[.int .i64 0, .int .i64 0, .int .i64 0, .int .i64 0, .slice none 0 0, .slice none 0 0] 27)).set (p := ⟨w33.heap.size, 0, none⟩) (.inr hs33) (.int .i64 0)).set (p := ⟨w33.heap.size, 1, none⟩) (.inr hs33) (.int .i64 0)).set (p := ⟨w33.heap.size, 2, none⟩) (.inr hs33) (.int .i64 0)).set (p := ⟨w33.heap.size, 3, none⟩) (.inr hs33) (.int .i64 0)).set (p := ⟨w33.heap.size, 4, none⟩) (.inr hs33) (.slice none 0 0)).set (p := ⟨w33.heap.size, 5, none⟩) (.inr hs33) (.slice none 0 0))
        revert hM34
        generalize (((((((w33.alloc (.cells #[.int .i64 0, .int .i64 0, .int .i64 0, .int .i64 0, .slice none 0 0, .slice none 0 0] 27)).setCell ⟨w33.heap.size, 0, none⟩ (.int .i64 0)).setCell ⟨w33.heap.size, 1, none⟩ (.int .i64 0)).setCell ⟨w33.heap.size, 2, none⟩ (.int .i64 0)).setCell ⟨w33.heap.size, 3, none⟩ (.int .i64 0)).setCell ⟨w33.heap.size, 4, none⟩ (.slice none 0 0)).setCell ⟨w33.heap.size, 5, none⟩ (.slice none 0 0)) = w34
        intro hM34
        refine ⟨fok8, alive26_cps _ _ fun w30 hM30 => .inl ⟨_, rfl, hold_ops okT (rs := [.tmp 10]) rfl ?_⟩⟩
        simp (maxSteps := 1000000) (disch := first | omega | (simp only [sizeAlloc, sizeDrew, sizeSet, sizePut] <;> omega) | fail) only [GS, TT_eq, TTl, Nat.reduceAdd, Nat.reduceMul, Nat.reduceSub, Nat.reduceDiv, Nat.reduceMod, Nat.reducePow, Nat.reduceEqDiff, ↓reduceIte, reduceCtorEq, Int.reduceToNat, Int.reduceAdd, Int.reduceSub, Int.reduceMul]
        exact hR _ (hM34.trans hM30 (by simp))
    subst hg
    have hab : decide (a = b) = decide (SameQ ⟨(ra, rb, rc), rd, rmbs, rtags⟩ ⟨(sa, sb, sc), sd, smbs, stags⟩) := by
      rw [decide_eq_decide, sameQ_iff]
      refine ⟨fun e => ?_, fun e => ?_⟩
      · have h4 := (rc_back hPb).1
        rw [← e, hda] at h4
        exact Except.ok.inj h4
      · rw [e, hPb] at hPa
        exact (Prod.mk.inj hPa).1.symm
    simp (maxSteps := 1000000) (disch := first | omega | (simp only [sizeAlloc, sizeDrew, sizeSet, sizePut] <;> omega) | fail) only [GS, TT_eq, TTl, Nat.reduceAdd, Nat.reduceMul, Nat.reduceSub, Nat.reduceDiv, Nat.reduceMod, Nat.reducePow, Nat.reduceEqDiff, ↓reduceIte, reduceCtorEq, Int.reduceToNat, Int.reduceAdd, Int.reduceSub, Int.reduceMul, c2, d2, hane]
    refine ⟨fok13, hsame _ (hmA.mrd.mod hM2 (by simp)) (hmB.mrd.mod hM2 (by simp)) (hmA.trd.mod hM2 (by simp)) (hmB.trd.mod hM2 (by simp)) _ fun w24 hM24 => .inl ⟨_, rfl, hold_ops okT (rs := [.tmp 10]) rfl ?_⟩⟩
    have hM02 := hM2.trans hM24 (by simp)
    rw [hab]
    have hbq : beq2 (decide (SameQ ⟨(ra, rb, rc), rd, rmbs, rtags⟩ ⟨(sa, sb, sc), sd, smbs, stags⟩)) (decide (SameQ ⟨(ra, rb, rc), rd, rmbs, rtags⟩ ⟨(sa, sb, sc), sd, smbs, stags⟩)) = true := by cases decide (SameQ ⟨(ra, rb, rc), rd, rmbs, rtags⟩ ⟨(sa, sb, sc), sd, smbs, stags⟩) <;> rfl
    simp (maxSteps := 1000000) (disch := first | omega | (simp only [sizeAlloc, sizeDrew, sizeSet, sizePut] <;> omega) | fail) only [GS, TT_eq, TTl, Nat.reduceAdd, Nat.reduceMul, Nat.reduceSub, Nat.reduceDiv, Nat.reduceMod, Nat.reducePow, Nat.reduceEqDiff, ↓reduceIte, reduceCtorEq, Int.reduceToNat, Int.reduceAdd, Int.reduceSub, Int.reduceMul, hbq, hane, htm, Int.toNat_natCast]
    have hsz31 := hM02.size
    have htl : (a.take cm).length ≤ maxLen := by rw [List.length_take]; unfold maxLen; omega
    refine ⟨fok9, eDecode_cps (a.take cm) htl _ _ (fun r' _ _ _ hr' _ _ _ => absurd (hsl r' hr') id) (fun c' w31 hc' hM31 => .inl ⟨_, rfl, hold_ops okT (rs := [.tmp 10]) rfl ?_⟩)⟩
    have hc0' : ¬ c' = 0 := by have := (decRc_err hc').1; omega
    have hM031 := hM02.trans hM31 (by simp)
    have hs31 := hM031.size
    unfold rcZ
    simp (maxSteps := 1000000) (disch := first | omega | (simp only [sizeAlloc, sizeDrew, sizeSet, sizePut] <;> omega) | fail) only [GS, TT_eq, TTl, Nat.reduceAdd, Nat.reduceMul, Nat.reduceSub, Nat.reduceDiv, Nat.reduceMod, Nat.reducePow, Nat.reduceEqDiff, ↓reduceIte, reduceCtorEq, Int.reduceToNat, Int.reduceAdd, Int.reduceSub, Int.reduceMul, hc0']
    have hM32 : Mod [] w (((((((w31.alloc (.cells #[.int .i64 0, .int .i64 0, .int .i64 0, .int .i64 0, .slice none 0 0, .slice none 0 0] 27)).setCell ⟨w31.heap.size, 0, none⟩ (.int .i64 0)).setCell ⟨w31.heap.size, 1, none⟩ (.int .i64 0)).setCell ⟨w31.heap.size, 2, none⟩ (.int .i64 0)).setCell ⟨w31.heap.size, 3, none⟩ (.int .i64 0)).setCell ⟨w31.heap.size, 4, none⟩ (.slice none 0 0)).setCell ⟨w31.heap.size, 5, none⟩ (.slice none 0 0)) := (((((((hM031.alloc (.cells #[.int .i64 0, .int .i64 0, .int .i64 0, .int .i64 0, .slice none 0 0, .slice none 0 0] 27)).set (p := ⟨w31.heap.size, 0, none⟩) (.inr hs31) (.int .i64 0)).set (p := ⟨w31.heap.size, 1, none⟩) (.inr hs31) (.int .i64 0)).set (p := ⟨w31.heap.size, 2, none⟩) (.inr hs31) (.int .i64 0)).set (p := ⟨w31.heap.size, 3, none⟩) (.inr hs31) (.int .i64 0)).set (p := ⟨w31.heap.size, 4, none⟩) (.inr hs31) (.slice none 0 0)).set (p := ⟨w31.heap.size, 5, none⟩) (.inr hs31) (.slice none 0 0))
    revert hM32
    generalize (((((((w31.alloc (.cells #[.int .i64 0, .int .i64 0, .int .i64 0, .int .i64 0, .slice none 0 0, .slice none 0 0] 27)).setCell ⟨w31.heap.size, 0, none⟩ (.int .i64 0)).setCell ⟨w31.heap.size, 1, none⟩ (.int .i64 0)).setCell ⟨w31.heap.size, 2, none⟩ (.int .i64 0)).setCell ⟨w31.heap.size, 3, none⟩ (.int .i64 0)).setCell ⟨w31.heap.size, 4, none⟩ (.slice none 0 0)).setCell ⟨w31.heap.size, 5, none⟩ (.slice none 0 0)) = w32
    generalize w31.heap.size = b31
    intro hM32
    have htl2 : (a ++ more).length ≤ maxLen := by rw [List.length_append]; unfold maxLen; omega
    cases more with
    | nil =>
      simp (maxSteps := 1000000) (disch := first | omega | (simp only [sizeAlloc, sizeDrew, sizeSet, sizePut] <;> omega) | fail) only [GS, TT_eq, TTl, Nat.reduceAdd, Nat.reduceMul, Nat.reduceSub, Nat.reduceDiv, Nat.reduceMod, Nat.reducePow, Nat.reduceEqDiff, ↓reduceIte, reduceCtorEq, Int.reduceToNat, Int.reduceAdd, Int.reduceSub, Int.reduceMul, List.append_nil]
      refine ⟨fok9, eDecode_cps a (by unfold maxLen; omega) _ _ (fun r' m' t' w33 hr' hm' ht' hM33 => .inl ⟨_, rfl, hold_ops okT (rs := [.tmp 10]) rfl ?_⟩) (fun c2 w33 hc2 hM33 => by rw [hda] at hc2; simp at hc2)⟩
      have hM033 := hM32.trans hM33 (by simp)
      have hs33 := hM033.size
      have om' := ownsRow_one hm'
      have ot' := ownsRow_one ht'
      obtain ⟨⟨ya, yb, yc⟩, yd, ymbs, ytags⟩ := r'
      unfold rcV rcC
      simp only
      simp (maxSteps := 1000000) (disch := first | omega | (simp only [sizeAlloc, sizeDrew, sizeSet, sizePut] <;> omega) | fail) only [GS, TT_eq, TTl, Nat.reduceAdd, Nat.reduceMul, Nat.reduceSub, Nat.reduceDiv, Nat.reduceMod, Nat.reducePow, Nat.reduceEqDiff, ↓reduceIte, reduceCtorEq, Int.reduceToNat, Int.reduceAdd, Int.reduceSub, Int.reduceMul, hc0', cellsL_one om', om', cellsL_one ot', ot', eq_self]
      have hM34 : Mod [] w (((((((w33.alloc (.cells #[.int .i64 0, .int .i64 0, .int .i64 0, .int .i64 0, .slice none 0 0, .slice none 0 0] 27)).setCell ⟨w33.heap.size, 0, none⟩ (.int .i64 ya)).setCell ⟨w33.heap.size, 1, none⟩ (.int .i64 yb)).setCell ⟨w33.heap.size, 2, none⟩ (.int .i64 yc)).setCell ⟨w33.heap.size, 3, none⟩ (.int .i64 yd)).setCell ⟨w33.heap.size, 4, none⟩ m').setCell ⟨w33.heap.size, 5, none⟩ t') := (((((((hM033.alloc (.cells #[.int .i64 0, .int .i64 0, .int .i64 0, .int .i64 0, .slice none 0 0, .slice none 0 0] 27)).set (p := ⟨w33.heap.size, 0, none⟩) (.inr hs33) (.int .i64 ya)).set (p := ⟨w33.heap.size, 1, none⟩) (.inr hs33) (.int .i64 yb)).set (p := ⟨w33.heap.size, 2, none⟩) (.inr hs33) (.int .i64 yc)).set (p := ⟨w33.heap.size, 3, none⟩) (.inr hs33) (.int .i64 yd)).set (p := ⟨w33.heap.size, 4, none⟩) (.inr hs33) m').set (p := ⟨w33.heap.size, 5, none⟩) (.inr hs33) t')
      revert hM34
      generalize (((((((w33.alloc (.cells #[.int .i64 0, .int .i64 0, .int .i64 0, .int .i64 0, .slice none 0 0, .slice none 0 0] 27)).setCell ⟨w33.heap.size, 0, none⟩ (.int .i64 ya)).setCell ⟨w33.heap.size, 1, none⟩ (.int .i64 yb)).setCell ⟨w33.heap.size, 2, none⟩ (.int .i64 yc)).setCell ⟨w33.heap.size, 3, none⟩ (.int .i64 yd)).setCell ⟨w33.heap.size, 4, none⟩ m').setCell ⟨w33.heap.size, 5, none⟩ t') = w34
      intro hM34
      refine ⟨fok8, alive26_cps _ _ fun w30 hM30 => .inl ⟨_, rfl, hold_ops okT (rs := [.tmp 10]) rfl ?_⟩⟩
      simp (maxSteps := 1000000) (disch := first | omega | (simp only [sizeAlloc, sizeDrew, sizeSet, sizePut] <;> omega) | fail) only [GS, TT_eq, TTl, Nat.reduceAdd, Nat.reduceMul, Nat.reduceSub, Nat.reduceDiv, Nat.reduceMod, Nat.reducePow, Nat.reduceEqDiff, ↓reduceIte, reduceCtorEq, Int.reduceToNat, Int.reduceAdd, Int.reduceSub, Int.reduceMul]
      exact hR _ (hM34.trans hM30 (by simp))
    | cons m0 mr =>
      have hse : ∀ r', decRc (a ++ (m0 :: mr)) = .ok r' → False := fun r' h' => by
        have := pre_term hcka (of_rc h').2.2
        simp at this
      simp (maxSteps := 1000000) (disch := first | omega | (simp only [sizeAlloc, sizeDrew, sizeSet, sizePut] <;> omega) | fail) only [GS, TT_eq, TTl, Nat.reduceAdd, Nat.reduceMul, Nat.reduceSub, Nat.reduceDiv, Nat.reduceMod, Nat.reducePow, Nat.reduceEqDiff, ↓reduceIte, reduceCtorEq, Int.reduceToNat, Int.reduceAdd, Int.reduceSub, Int.reduceMul]
      refine ⟨fok9, eDecode_cps (a ++ (m0 :: mr)) htl2 _ _ (fun r' _ _ _ hr' _ _ _ => absurd (hse r' hr') id) (fun c2 w33 hc2 hM33 => .inl ⟨_, rfl, hold_ops okT (rs := [.tmp 10]) rfl ?_⟩)⟩
      have hM033 := hM32.trans hM33 (by simp)
      have hs33 := hM033.size
      have hc20 : ¬ c2 = 0 := by have := (decRc_err hc2).1; omega
      unfold rcZ
      simp (maxSteps := 1000000) (disch := first | omega | (simp only [sizeAlloc, sizeDrew, sizeSet, sizePut] <;> omega) | fail) only [GS, TT_eq, TTl, Nat.reduceAdd, Nat.reduceMul, Nat.reduceSub, Nat.reduceDiv, Nat.reduceMod, Nat.reducePow, Nat.reduceEqDiff, ↓reduceIte, reduceCtorEq, Int.reduceToNat, Int.reduceAdd, Int.reduceSub, Int.reduceMul, hc0', hc20]
      have hM34 : Mod [] w (((((((w33.alloc (.cells #[.int .i64 0, .int .i64 0, .int .i64 0, .int .i64 0, .slice none 0 0, .slice none 0 0] 27)).setCell ⟨w33.heap.size, 0, none⟩ (.int .i64 0)).setCell ⟨w33.heap.size, 1, none⟩ (.int .i64 0)).setCell ⟨w33.heap.size, 2, none⟩ (.int .i64 0)).setCell ⟨w33.heap.size, 3, none⟩ (.int .i64 0)).setCell ⟨w33.heap.size, 4, none⟩ (.slice none 0 0)).setCell ⟨w33.heap.size, 5, none⟩ (.slice none 0 0)) := (((((((hM033.alloc (.cells #[.int .i64 0, .int .i64 0, .int .i64 0, .int .i64 0, .slice none 0 0, .slice none 0 0] 27)).set (p := ⟨w33.heap.size, 0, none⟩) (.inr hs33) (.int .i64 0)).set (p := ⟨w33.heap.size, 1, none⟩) (.inr hs33) (.int .i64 0)).set (p := ⟨w33.heap.size, 2, none⟩) (.inr hs33) (.int .i64 0)).set (p := ⟨w33.heap.size, 3, none⟩) (.inr hs33) (.int .i64 0)).set (p := ⟨w33.heap.size, 4, none⟩) (.inr hs33) (.slice none 0 0)).set (p := ⟨w33.heap.size, 5, none⟩) (.inr hs33) (.slice none 0 0))
      revert hM34
      generalize (((((((w33.alloc (.cells #[.int .i64 0, .int .i64 0, .int .i64 0, .int .i64 0, .slice none 0 0, .slice none 0 0] 27)).setCell ⟨w33.heap.size, 0, none⟩ (.int .i64 0)).setCell ⟨w33.heap.size, 1, none⟩ (.int .i64 0)).setCell ⟨w33.heap.size, 2, none⟩ (.int .i64 0)).setCell ⟨w33.heap.size, 3, none⟩ (.int .i64 0)).setCell ⟨w33.heap.size, 4, none⟩ (.slice none 0 0)).setCell ⟨w33.heap.size, 5, none⟩ (.slice none 0 0)) = w34
      intro hM34
      refine ⟨fok8, alive26_cps _ _ fun w30 hM30 => .inl ⟨_, rfl, hold_ops okT (rs := [.tmp 10]) rfl ?_⟩⟩
      simp (maxSteps := 1000000) (disch := first | omega | (simp only [sizeAlloc, sizeDrew, sizeSet, sizePut] <;> omega) | fail) only [GS, TT_eq, TTl, Nat.reduceAdd, Nat.reduceMul, Nat.reduceSub, Nat.reduceDiv, Nat.reduceMod, Nat.reducePow, Nat.reduceEqDiff, ↓reduceIte, reduceCtorEq, Int.reduceToNat, Int.reduceAdd, Int.reduceSub, Int.reduceMul]
      exact hR _ (hM34.trans hM30 (by simp))
  · obtain ⟨hc3, hcl⟩ := decRc_err hx
    have hM04 := hM03.trans hM4 (by simp)
    have hA4 := hM4.get hA3' (by simp)
    have hB4 := hM4.get hB3' (by simp)
    have hc0 : ¬ c = 0 := by omega
    unfold rcZ
    simp (maxSteps := 1000000) (disch := first | omega | (simp only [sizeAlloc, sizeDrew, sizeSet, sizePut] <;> omega) | fail) only [GS, TT_eq, TTl, Nat.reduceAdd, Nat.reduceMul, Nat.reduceSub, Nat.reduceDiv, Nat.reduceMod, Nat.reducePow, Nat.reduceEqDiff, ↓reduceIte, reduceCtorEq, Int.reduceToNat, Int.reduceAdd, Int.reduceSub, Int.reduceMul, hc0]
    have hhX : (((((((w4.alloc (.cells #[.int .i64 0, .int .i64 0, .int .i64 0, .int .i64 0, .slice none 0 0, .slice none 0 0] 27)).setCell ⟨w4.heap.size, 0, none⟩ (.int .i64 0)).setCell ⟨w4.heap.size, 1, none⟩ (.int .i64 0)).setCell ⟨w4.heap.size, 2, none⟩ (.int .i64 0)).setCell ⟨w4.heap.size, 3, none⟩ (.int .i64 0)).setCell ⟨w4.heap.size, 4, none⟩ (.slice none 0 0)).setCell ⟨w4.heap.size, 5, none⟩ (.slice none 0 0)).heap[w4.heap.size]? = _ := st6 (heapNew (w := w4) (o := .cells #[.int .i64 0, .int .i64 0, .int .i64 0, .int .i64 0, .slice none 0 0, .slice none 0 0] 27))
    have hMX : Mod [] w4 (((((((w4.alloc (.cells #[.int .i64 0, .int .i64 0, .int .i64 0, .int .i64 0, .slice none 0 0, .slice none 0 0] 27)).setCell ⟨w4.heap.size, 0, none⟩ (.int .i64 0)).setCell ⟨w4.heap.size, 1, none⟩ (.int .i64 0)).setCell ⟨w4.heap.size, 2, none⟩ (.int .i64 0)).setCell ⟨w4.heap.size, 3, none⟩ (.int .i64 0)).setCell ⟨w4.heap.size, 4, none⟩ (.slice none 0 0)).setCell ⟨w4.heap.size, 5, none⟩ (.slice none 0 0)) := ((((((((Mod.refl [] w4).alloc (.cells #[.int .i64 0, .int .i64 0, .int .i64 0, .int .i64 0, .slice none 0 0, .slice none 0 0] 27)).set (p := ⟨w4.heap.size, 0, none⟩) (.inr (Nat.le_refl _)) (.int .i64 0)).set (p := ⟨w4.heap.size, 1, none⟩) (.inr (Nat.le_refl _)) (.int .i64 0)).set (p := ⟨w4.heap.size, 2, none⟩) (.inr (Nat.le_refl _)) (.int .i64 0)).set (p := ⟨w4.heap.size, 3, none⟩) (.inr (Nat.le_refl _)) (.int .i64 0)).set (p := ⟨w4.heap.size, 4, none⟩) (.inr (Nat.le_refl _)) (.slice none 0 0)).set (p := ⟨w4.heap.size, 5, none⟩) (.inr (Nat.le_refl _)) (.slice none 0 0))
    revert hhX hMX
    generalize (((((((w4.alloc (.cells #[.int .i64 0, .int .i64 0, .int .i64 0, .int .i64 0, .slice none 0 0, .slice none 0 0] 27)).setCell ⟨w4.heap.size, 0, none⟩ (.int .i64 0)).setCell ⟨w4.heap.size, 1, none⟩ (.int .i64 0)).setCell ⟨w4.heap.size, 2, none⟩ (.int .i64 0)).setCell ⟨w4.heap.size, 3, none⟩ (.int .i64 0)).setCell ⟨w4.heap.size, 4, none⟩ (.slice none 0 0)).setCell ⟨w4.heap.size, 5, none⟩ (.slice none 0 0)) = w5
    generalize w4.heap.size = bx
    intro hhX hMX
    have hzz := fun w R hR => Same26_cps ⟨(0, 0, 0), 0, [], []⟩ ⟨(0, 0, 0), 0, [], []⟩ (.slice none 0 0) (.slice none 0 0) (.slice none 0 0) (.slice none 0 0) w R (by decide) (by decide) (rdNil w 0) (rdNil w 0) (rdNil1 w) (rdNil1 w) hR
    rw [decide_eq_true ((sameQ_iff _ _).2 rfl)] at hzz
    unfold rcV rcC at hzz
    simp only at hzz
    refine ⟨fok13, hzz _ _ fun w7 hM7 => .inl ⟨_, rfl, hold_ops okT (rs := [.tmp 10]) rfl ?_⟩⟩
    have hM47 := hMX.trans hM7 (by simp)
    have hMR := hM04.trans hM47 (by simp)
    have hAR := hM47.get hA4 (by simp)
    have hBR := hM47.get hB4 (by simp)
    clear hMX hM7 hM47 hM04 hA4 hB4 hhX hzz
    have cR := fun o => cellOf (o := o) hAR
    by_cases hmx : (16384 : Int) < ((t.length : Nat) : Int)
    · have hc5 : c = 5 := hcl (by omega)
      subst hc5
      simp (maxSteps := 1000000) (disch := first | omega | (simp only [sizeAlloc, sizeDrew, sizeSet, sizePut] <;> omega) | fail) only [GS, TT_eq, TTl, Nat.reduceAdd, Nat.reduceMul, Nat.reduceSub, Nat.reduceDiv, Nat.reduceMod, Nat.reducePow, Nat.reduceEqDiff, ↓reduceIte, reduceCtorEq, Int.reduceToNat, Int.reduceAdd, Int.reduceSub, Int.reduceMul, cR, hmx]
      refine ⟨fok14, hownA _ (hmA.mod hMR) _ fun sv1 su1 w20 how1 hot1 hM20 => .inl ⟨_, rfl, hold_ops okT (rs := [.tmp 10]) rfl ?_⟩⟩
      simp (maxSteps := 1000000) (disch := first | omega | (simp only [sizeAlloc, sizeDrew, sizeSet, sizePut] <;> omega) | fail) only [GS, TT_eq, TTl, Nat.reduceAdd, Nat.reduceMul, Nat.reduceSub, Nat.reduceDiv, Nat.reduceMod, Nat.reducePow, Nat.reduceEqDiff, ↓reduceIte, reduceCtorEq, Int.reduceToNat, Int.reduceAdd, Int.reduceSub, Int.reduceMul]
      refine ⟨fok10, hencA sv1 su1 _ ⟨hmA.aud, hmA.mlen, hmA.mdig, Rd.own how1, hmA.tlen, hmA.tdig, Rd.own hot1⟩ _ fun w21 hM21 => .inl ⟨_, rfl, hold_ops okT (rs := [.tmp 10]) rfl ?_⟩⟩
      have hM1 := (hMR.trans hM20 (by simp)).trans hM21 (by simp)
      have hA1 := (hM20.trans hM21 (by simp)).get hAR (by simp)
      have hB1 := (hM20.trans hM21 (by simp)).get hBR (by simp)
      have c1 := fun o => cellOf (o := o) hA1
      have d1 := fun o => cellOf (o := o) hB1
      clear hM20 hM21 how1 hot1 hAR hBR hMR
      unfold stV
      simp (maxSteps := 1000000) (disch := first | omega | (simp only [sizeAlloc, sizeDrew, sizeSet, sizePut] <;> omega) | fail) only [GS, TT_eq, TTl, Nat.reduceAdd, Nat.reduceMul, Nat.reduceSub, Nat.reduceDiv, Nat.reduceMod, Nat.reducePow, Nat.reduceEqDiff, ↓reduceIte, reduceCtorEq, Int.reduceToNat, Int.reduceAdd, Int.reduceSub, Int.reduceMul, d1]
      refine ⟨fok14, hownB _ (hmB.mod hM1) _ fun sv2 su2 w22 how2 hot2 hM22 => .inl ⟨_, rfl, hold_ops okT (rs := [.tmp 10]) rfl ?_⟩⟩
      simp (maxSteps := 1000000) (disch := first | omega | (simp only [sizeAlloc, sizeDrew, sizeSet, sizePut] <;> omega) | fail) only [GS, TT_eq, TTl, Nat.reduceAdd, Nat.reduceMul, Nat.reduceSub, Nat.reduceDiv, Nat.reduceMod, Nat.reducePow, Nat.reduceEqDiff, ↓reduceIte, reduceCtorEq, Int.reduceToNat, Int.reduceAdd, Int.reduceSub, Int.reduceMul]
      refine ⟨fok10, hencB sv2 su2 _ ⟨hmB.aud, hmB.mlen, hmB.mdig, Rd.own how2, hmB.tlen, hmB.tdig, Rd.own hot2⟩ _ fun w23 hM23 => .inl ⟨_, rfl, hold_ops okT (rs := [.tmp 10]) rfl ?_⟩⟩
      have hM2 := (hM1.trans hM22 (by simp)).trans hM23 (by simp)
      have hA2 := (hM22.trans hM23 (by simp)).get hA1 (by simp)
      have hB2 := (hM22.trans hM23 (by simp)).get hB1 (by simp)
      have c2 := fun o => cellOf (o := o) hA2
      have d2 := fun o => cellOf (o := o) hB2
      clear hM22 hM23 how2 hot2 c1 d1 hA1 hB1 hM1
      unfold stV
      generalize hPa : encR ⟨(ra, rb, rc), rd, rmbs, rtags⟩ = Pa at *
      generalize hPb : encR ⟨(sa, sb, sc), sd, smbs, stags⟩ = Pb at *
      obtain ⟨a, f⟩ := Pa
      obtain ⟨b, g⟩ := Pb
      simp only
      by_cases hf : f = 0
      rotate_left
      · simp (maxSteps := 1000000) (disch := first | omega | (simp only [sizeAlloc, sizeDrew, sizeSet, sizePut] <;> omega) | fail) only [GS, TT_eq, TTl, Nat.reduceAdd, Nat.reduceMul, Nat.reduceSub, Nat.reduceDiv, Nat.reduceMod, Nat.reducePow, Nat.reduceEqDiff, ↓reduceIte, reduceCtorEq, Int.reduceToNat, Int.reduceAdd, Int.reduceSub, Int.reduceMul, hf]
        refine ⟨fok8, alive26_cps _ _ fun w30 hM30 => .inl ⟨_, rfl, hold_ops okT (rs := [.tmp 10]) rfl ?_⟩⟩
        simp (maxSteps := 1000000) (disch := first | omega | (simp only [sizeAlloc, sizeDrew, sizeSet, sizePut] <;> omega) | fail) only [GS, TT_eq, TTl, Nat.reduceAdd, Nat.reduceMul, Nat.reduceSub, Nat.reduceDiv, Nat.reduceMod, Nat.reducePow, Nat.reduceEqDiff, ↓reduceIte, reduceCtorEq, Int.reduceToNat, Int.reduceAdd, Int.reduceSub, Int.reduceMul]
        exact hR _ (hM2.trans hM30 (by simp))
      subst hf
      obtain ⟨hda, hmya, hcka⟩ := rc_back hPa
      obtain ⟨-, -, hla, hla1⟩ := check0 hcka
      have hane : ¬ a = [] := fun e => by rw [e] at hla1; simp at hla1
      have hcmlt := Nat.mod_lt cut (show 0 < a.length by omega)
      have htm : ((cut : Nat) : Int).tmod ((a.length : Nat) : Int) = ((cut % a.length : Nat) : Int) := (Int.ofNat_tmod _ _).symm
      generalize cut % a.length = cm at hcmlt htm
      have hsl : ∀ r', decRc (a.take cm) = .ok r' → False := fun r' h' => by
        have h2 := (of_rc h').2.2
        have h3 := pre_term (x := a.drop cm) h2 (by rw [List.take_append_drop]; exact hcka)
        have h4 := congrArg List.length h3
        rw [List.length_drop, List.length_nil] at h4
        omega
      by_cases hg : g = 0
      rotate_left
      · simp (maxSteps := 1000000) (disch := first | omega | (simp only [sizeAlloc, sizeDrew, sizeSet, sizePut] <;> omega) | fail) only [GS, TT_eq, TTl, Nat.reduceAdd, Nat.reduceMul, Nat.reduceSub, Nat.reduceDiv, Nat.reduceMod, Nat.reducePow, Nat.reduceEqDiff, ↓reduceIte, reduceCtorEq, Int.reduceToNat, Int.reduceAdd, Int.reduceSub, Int.reduceMul, hg, hane, htm, Int.toNat_natCast]
        have hsz31 := hM2.size
        have htl : (a.take cm).length ≤ maxLen := by rw [List.length_take]; unfold maxLen; omega
        refine ⟨fok9, eDecode_cps (a.take cm) htl _ _ (fun r' _ _ _ hr' _ _ _ => absurd (hsl r' hr') id) (fun c' w31 hc' hM31 => .inl ⟨_, rfl, hold_ops okT (rs := [.tmp 10]) rfl ?_⟩)⟩
        have hc0' : ¬ c' = 0 := by have := (decRc_err hc').1; omega
        have hM031 := hM2.trans hM31 (by simp)
        have hs31 := hM031.size
        unfold rcZ
        simp (maxSteps := 1000000) (disch := first | omega | (simp only [sizeAlloc, sizeDrew, sizeSet, sizePut] <;> omega) | fail) only [GS, TT_eq, TTl, Nat.reduceAdd, Nat.reduceMul, Nat.reduceSub, Nat.reduceDiv, Nat.reduceMod, Nat.reducePow, Nat.reduceEqDiff, ↓reduceIte, reduceCtorEq, Int.reduceToNat, Int.reduceAdd, Int.reduceSub, Int.reduceMul, hc0']
        have hM32 : Mod [] w (((((((w31.alloc (.cells #[.int .i64 0, .int .i64 0, .int .i64 0, .int .i64 0, .slice none 0 0, .slice none 0 0] 27)).setCell ⟨w31.heap.size, 0, none⟩ (.int .i64 0)).setCell ⟨w31.heap.size, 1, none⟩ (.int .i64 0)).setCell ⟨w31.heap.size, 2, none⟩ (.int .i64 0)).setCell ⟨w31.heap.size, 3, none⟩ (.int .i64 0)).setCell ⟨w31.heap.size, 4, none⟩ (.slice none 0 0)).setCell ⟨w31.heap.size, 5, none⟩ (.slice none 0 0)) := (((((((hM031.alloc (.cells #[.int .i64 0, .int .i64 0, .int .i64 0, .int .i64 0, .slice none 0 0, .slice none 0 0] 27)).set (p := ⟨w31.heap.size, 0, none⟩) (.inr hs31) (.int .i64 0)).set (p := ⟨w31.heap.size, 1, none⟩) (.inr hs31) (.int .i64 0)).set (p := ⟨w31.heap.size, 2, none⟩) (.inr hs31) (.int .i64 0)).set (p := ⟨w31.heap.size, 3, none⟩) (.inr hs31) (.int .i64 0)).set (p := ⟨w31.heap.size, 4, none⟩) (.inr hs31) (.slice none 0 0)).set (p := ⟨w31.heap.size, 5, none⟩) (.inr hs31) (.slice none 0 0))
        revert hM32
        generalize (((((((w31.alloc (.cells #[.int .i64 0, .int .i64 0, .int .i64 0, .int .i64 0, .slice none 0 0, .slice none 0 0] 27)).setCell ⟨w31.heap.size, 0, none⟩ (.int .i64 0)).setCell ⟨w31.heap.size, 1, none⟩ (.int .i64 0)).setCell ⟨w31.heap.size, 2, none⟩ (.int .i64 0)).setCell ⟨w31.heap.size, 3, none⟩ (.int .i64 0)).setCell ⟨w31.heap.size, 4, none⟩ (.slice none 0 0)).setCell ⟨w31.heap.size, 5, none⟩ (.slice none 0 0)) = w32
        generalize w31.heap.size = b31
        intro hM32
        have htl2 : (a ++ more).length ≤ maxLen := by rw [List.length_append]; unfold maxLen; omega
        cases more with
        | nil =>
          simp (maxSteps := 1000000) (disch := first | omega | (simp only [sizeAlloc, sizeDrew, sizeSet, sizePut] <;> omega) | fail) only [GS, TT_eq, TTl, Nat.reduceAdd, Nat.reduceMul, Nat.reduceSub, Nat.reduceDiv, Nat.reduceMod, Nat.reducePow, Nat.reduceEqDiff, ↓reduceIte, reduceCtorEq, Int.reduceToNat, Int.reduceAdd, Int.reduceSub, Int.reduceMul, List.append_nil]
          refine ⟨fok9, eDecode_cps a (by unfold maxLen; omega) _ _ (fun r' m' t' w33 hr' hm' ht' hM33 => .inl ⟨_, rfl, hold_ops okT (rs := [.tmp 10]) rfl ?_⟩) (fun c2 w33 hc2 hM33 => by rw [hda] at hc2; simp at hc2)⟩
          have hM033 := hM32.trans hM33 (by simp)
          have hs33 := hM033.size
          have om' := ownsRow_one hm'
          have ot' := ownsRow_one ht'
          obtain ⟨⟨ya, yb, yc⟩, yd, ymbs, ytags⟩ := r'
          unfold rcV rcC
          simp only
          simp (maxSteps := 1000000) (disch := first | omega | (simp only [sizeAlloc, sizeDrew, sizeSet, sizePut] <;> omega) | fail) only [GS, TT_eq, TTl, Nat.reduceAdd, Nat.reduceMul, Nat.reduceSub, Nat.reduceDiv, Nat.reduceMod, Nat.reducePow, Nat.reduceEqDiff, ↓reduceIte, reduceCtorEq, Int.reduceToNat, Int.reduceAdd, Int.reduceSub, Int.reduceMul, hc0', cellsL_one om', om', cellsL_one ot', ot', eq_self]
          have hM34 : Mod [] w (((((((w33.alloc (.cells #[.int .i64 0, .int .i64 0, .int .i64 0, .int .i64 0, .slice none 0 0, .slice none 0 0] 27)).setCell ⟨w33.heap.size, 0, none⟩ (.int .i64 ya)).setCell ⟨w33.heap.size, 1, none⟩ (.int .i64 yb)).setCell ⟨w33.heap.size, 2, none⟩ (.int .i64 yc)).setCell ⟨w33.heap.size, 3, none⟩ (.int .i64 yd)).setCell ⟨w33.heap.size, 4, none⟩ m').setCell ⟨w33.heap.size, 5, none⟩ t') := (((((((hM033.alloc (.cells #[.int .i64 0, .int .i64 0, .int .i64 0, .int .i64 0, .slice none 0 0, .slice none 0 0] 27)).set (p := ⟨w33.heap.size, 0, none⟩) (.inr hs33) (.int .i64 ya)).set (p := ⟨w33.heap.size, 1, none⟩) (.inr hs33) (.int .i64 yb)).set (p := ⟨w33.heap.size, 2, none⟩) (.inr hs33) (.int .i64 yc)).set (p := ⟨w33.heap.size, 3, none⟩) (.inr hs33) (.int .i64 yd)).set (p := ⟨w33.heap.size, 4, none⟩) (.inr hs33) m').set (p := ⟨w33.heap.size, 5, none⟩) (.inr hs33) t')
          revert hM34
          generalize (((((((w33.alloc (.cells #[.int .i64 0, .int .i64 0, .int .i64 0, .int .i64 0, .slice none 0 0, .slice none 0 0] 27)).setCell ⟨w33.heap.size, 0, none⟩ (.int .i64 ya)).setCell ⟨w33.heap.size, 1, none⟩ (.int .i64 yb)).setCell ⟨w33.heap.size, 2, none⟩ (.int .i64 yc)).setCell ⟨w33.heap.size, 3, none⟩ (.int .i64 yd)).setCell ⟨w33.heap.size, 4, none⟩ m').setCell ⟨w33.heap.size, 5, none⟩ t') = w34
          intro hM34
          refine ⟨fok8, alive26_cps _ _ fun w30 hM30 => .inl ⟨_, rfl, hold_ops okT (rs := [.tmp 10]) rfl ?_⟩⟩
          simp (maxSteps := 1000000) (disch := first | omega | (simp only [sizeAlloc, sizeDrew, sizeSet, sizePut] <;> omega) | fail) only [GS, TT_eq, TTl, Nat.reduceAdd, Nat.reduceMul, Nat.reduceSub, Nat.reduceDiv, Nat.reduceMod, Nat.reducePow, Nat.reduceEqDiff, ↓reduceIte, reduceCtorEq, Int.reduceToNat, Int.reduceAdd, Int.reduceSub, Int.reduceMul]
          exact hR _ (hM34.trans hM30 (by simp))
        | cons m0 mr =>
          have hse : ∀ r', decRc (a ++ (m0 :: mr)) = .ok r' → False := fun r' h' => by
            have := pre_term hcka (of_rc h').2.2
            simp at this
          simp (maxSteps := 1000000) (disch := first | omega | (simp only [sizeAlloc, sizeDrew, sizeSet, sizePut] <;> omega) | fail) only [GS, TT_eq, TTl, Nat.reduceAdd, Nat.reduceMul, Nat.reduceSub, Nat.reduceDiv, Nat.reduceMod, Nat.reducePow, Nat.reduceEqDiff, ↓reduceIte, reduceCtorEq, Int.reduceToNat, Int.reduceAdd, Int.reduceSub, Int.reduceMul]
          refine ⟨fok9, eDecode_cps (a ++ (m0 :: mr)) htl2 _ _ (fun r' _ _ _ hr' _ _ _ => absurd (hse r' hr') id) (fun c2 w33 hc2 hM33 => .inl ⟨_, rfl, hold_ops okT (rs := [.tmp 10]) rfl ?_⟩)⟩
          have hM033 := hM32.trans hM33 (by simp)
          have hs33 := hM033.size
          have hc20 : ¬ c2 = 0 := by have := (decRc_err hc2).1; omega
          unfold rcZ
          simp (maxSteps := 1000000) (disch := first | omega | (simp only [sizeAlloc, sizeDrew, sizeSet, sizePut] <;> omega) | fail) only [GS, TT_eq, TTl, Nat.reduceAdd, Nat.reduceMul, Nat.reduceSub, Nat.reduceDiv, Nat.reduceMod, Nat.reducePow, Nat.reduceEqDiff, ↓reduceIte, reduceCtorEq, Int.reduceToNat, Int.reduceAdd, Int.reduceSub, Int.reduceMul, hc0', hc20]
          have hM34 : Mod [] w (((((((w33.alloc (.cells #[.int .i64 0, .int .i64 0, .int .i64 0, .int .i64 0, .slice none 0 0, .slice none 0 0] 27)).setCell ⟨w33.heap.size, 0, none⟩ (.int .i64 0)).setCell ⟨w33.heap.size, 1, none⟩ (.int .i64 0)).setCell ⟨w33.heap.size, 2, none⟩ (.int .i64 0)).setCell ⟨w33.heap.size, 3, none⟩ (.int .i64 0)).setCell ⟨w33.heap.size, 4, none⟩ (.slice none 0 0)).setCell ⟨w33.heap.size, 5, none⟩ (.slice none 0 0)) := (((((((hM033.alloc (.cells #[.int .i64 0, .int .i64 0, .int .i64 0, .int .i64 0, .slice none 0 0, .slice none 0 0] 27)).set (p := ⟨w33.heap.size, 0, none⟩) (.inr hs33) (.int .i64 0)).set (p := ⟨w33.heap.size, 1, none⟩) (.inr hs33) (.int .i64 0)).set (p := ⟨w33.heap.size, 2, none⟩) (.inr hs33) (.int .i64 0)).set (p := ⟨w33.heap.size, 3, none⟩) (.inr hs33) (.int .i64 0)).set (p := ⟨w33.heap.size, 4, none⟩) (.inr hs33) (.slice none 0 0)).set (p := ⟨w33.heap.size, 5, none⟩) (.inr hs33) (.slice none 0 0))
          revert hM34
          generalize (((((((w33.alloc (.cells #[.int .i64 0, .int .i64 0, .int .i64 0, .int .i64 0, .slice none 0 0, .slice none 0 0] 27)).setCell ⟨w33.heap.size, 0, none⟩ (.int .i64 0)).setCell ⟨w33.heap.size, 1, none⟩ (.int .i64 0)).setCell ⟨w33.heap.size, 2, none⟩ (.int .i64 0)).setCell ⟨w33.heap.size, 3, none⟩ (.int .i64 0)).setCell ⟨w33.heap.size, 4, none⟩ (.slice none 0 0)).setCell ⟨w33.heap.size, 5, none⟩ (.slice none 0 0)) = w34
          intro hM34
          refine ⟨fok8, alive26_cps _ _ fun w30 hM30 => .inl ⟨_, rfl, hold_ops okT (rs := [.tmp 10]) rfl ?_⟩⟩
          simp (maxSteps := 1000000) (disch := first | omega | (simp only [sizeAlloc, sizeDrew, sizeSet, sizePut] <;> omega) | fail) only [GS, TT_eq, TTl, Nat.reduceAdd, Nat.reduceMul, Nat.reduceSub, Nat.reduceDiv, Nat.reduceMod, Nat.reducePow, Nat.reduceEqDiff, ↓reduceIte, reduceCtorEq, Int.reduceToNat, Int.reduceAdd, Int.reduceSub, Int.reduceMul]
          exact hR _ (hM34.trans hM30 (by simp))
      subst hg
      have hab : decide (a = b) = decide (SameQ ⟨(ra, rb, rc), rd, rmbs, rtags⟩ ⟨(sa, sb, sc), sd, smbs, stags⟩) := by
        rw [decide_eq_decide, sameQ_iff]
        refine ⟨fun e => ?_, fun e => ?_⟩
        · have h4 := (rc_back hPb).1
          rw [← e, hda] at h4
          exact Except.ok.inj h4
        · rw [e, hPb] at hPa
          exact (Prod.mk.inj hPa).1.symm
      simp (maxSteps := 1000000) (disch := first | omega | (simp only [sizeAlloc, sizeDrew, sizeSet, sizePut] <;> omega) | fail) only [GS, TT_eq, TTl, Nat.reduceAdd, Nat.reduceMul, Nat.reduceSub, Nat.reduceDiv, Nat.reduceMod, Nat.reducePow, Nat.reduceEqDiff, ↓reduceIte, reduceCtorEq, Int.reduceToNat, Int.reduceAdd, Int.reduceSub, Int.reduceMul, c2, d2, hane]
      refine ⟨fok13, hsame _ (hmA.mrd.mod hM2 (by simp)) (hmB.mrd.mod hM2 (by simp)) (hmA.trd.mod hM2 (by simp)) (hmB.trd.mod hM2 (by simp)) _ fun w24 hM24 => .inl ⟨_, rfl, hold_ops okT (rs := [.tmp 10]) rfl ?_⟩⟩
      have hM02 := hM2.trans hM24 (by simp)
      rw [hab]
      have hbq : beq2 (decide (SameQ ⟨(ra, rb, rc), rd, rmbs, rtags⟩ ⟨(sa, sb, sc), sd, smbs, stags⟩)) (decide (SameQ ⟨(ra, rb, rc), rd, rmbs, rtags⟩ ⟨(sa, sb, sc), sd, smbs, stags⟩)) = true := by cases decide (SameQ ⟨(ra, rb, rc), rd, rmbs, rtags⟩ ⟨(sa, sb, sc), sd, smbs, stags⟩) <;> rfl
      simp (maxSteps := 1000000) (disch := first | omega | (simp only [sizeAlloc, sizeDrew, sizeSet, sizePut] <;> omega) | fail) only [GS, TT_eq, TTl, Nat.reduceAdd, Nat.reduceMul, Nat.reduceSub, Nat.reduceDiv, Nat.reduceMod, Nat.reducePow, Nat.reduceEqDiff, ↓reduceIte, reduceCtorEq, Int.reduceToNat, Int.reduceAdd, Int.reduceSub, Int.reduceMul, hbq, hane, htm, Int.toNat_natCast]
      have hsz31 := hM02.size
      have htl : (a.take cm).length ≤ maxLen := by rw [List.length_take]; unfold maxLen; omega
      refine ⟨fok9, eDecode_cps (a.take cm) htl _ _ (fun r' _ _ _ hr' _ _ _ => absurd (hsl r' hr') id) (fun c' w31 hc' hM31 => .inl ⟨_, rfl, hold_ops okT (rs := [.tmp 10]) rfl ?_⟩)⟩
      have hc0' : ¬ c' = 0 := by have := (decRc_err hc').1; omega
      have hM031 := hM02.trans hM31 (by simp)
      have hs31 := hM031.size
      unfold rcZ
      simp (maxSteps := 1000000) (disch := first | omega | (simp only [sizeAlloc, sizeDrew, sizeSet, sizePut] <;> omega) | fail) only [GS, TT_eq, TTl, Nat.reduceAdd, Nat.reduceMul, Nat.reduceSub, Nat.reduceDiv, Nat.reduceMod, Nat.reducePow, Nat.reduceEqDiff, ↓reduceIte, reduceCtorEq, Int.reduceToNat, Int.reduceAdd, Int.reduceSub, Int.reduceMul, hc0']
      have hM32 : Mod [] w (((((((w31.alloc (.cells #[.int .i64 0, .int .i64 0, .int .i64 0, .int .i64 0, .slice none 0 0, .slice none 0 0] 27)).setCell ⟨w31.heap.size, 0, none⟩ (.int .i64 0)).setCell ⟨w31.heap.size, 1, none⟩ (.int .i64 0)).setCell ⟨w31.heap.size, 2, none⟩ (.int .i64 0)).setCell ⟨w31.heap.size, 3, none⟩ (.int .i64 0)).setCell ⟨w31.heap.size, 4, none⟩ (.slice none 0 0)).setCell ⟨w31.heap.size, 5, none⟩ (.slice none 0 0)) := (((((((hM031.alloc (.cells #[.int .i64 0, .int .i64 0, .int .i64 0, .int .i64 0, .slice none 0 0, .slice none 0 0] 27)).set (p := ⟨w31.heap.size, 0, none⟩) (.inr hs31) (.int .i64 0)).set (p := ⟨w31.heap.size, 1, none⟩) (.inr hs31) (.int .i64 0)).set (p := ⟨w31.heap.size, 2, none⟩) (.inr hs31) (.int .i64 0)).set (p := ⟨w31.heap.size, 3, none⟩) (.inr hs31) (.int .i64 0)).set (p := ⟨w31.heap.size, 4, none⟩) (.inr hs31) (.slice none 0 0)).set (p := ⟨w31.heap.size, 5, none⟩) (.inr hs31) (.slice none 0 0))
      revert hM32
      generalize (((((((w31.alloc (.cells #[.int .i64 0, .int .i64 0, .int .i64 0, .int .i64 0, .slice none 0 0, .slice none 0 0] 27)).setCell ⟨w31.heap.size, 0, none⟩ (.int .i64 0)).setCell ⟨w31.heap.size, 1, none⟩ (.int .i64 0)).setCell ⟨w31.heap.size, 2, none⟩ (.int .i64 0)).setCell ⟨w31.heap.size, 3, none⟩ (.int .i64 0)).setCell ⟨w31.heap.size, 4, none⟩ (.slice none 0 0)).setCell ⟨w31.heap.size, 5, none⟩ (.slice none 0 0)) = w32
      generalize w31.heap.size = b31
      intro hM32
      have htl2 : (a ++ more).length ≤ maxLen := by rw [List.length_append]; unfold maxLen; omega
      cases more with
      | nil =>
        simp (maxSteps := 1000000) (disch := first | omega | (simp only [sizeAlloc, sizeDrew, sizeSet, sizePut] <;> omega) | fail) only [GS, TT_eq, TTl, Nat.reduceAdd, Nat.reduceMul, Nat.reduceSub, Nat.reduceDiv, Nat.reduceMod, Nat.reducePow, Nat.reduceEqDiff, ↓reduceIte, reduceCtorEq, Int.reduceToNat, Int.reduceAdd, Int.reduceSub, Int.reduceMul, List.append_nil]
        refine ⟨fok9, eDecode_cps a (by unfold maxLen; omega) _ _ (fun r' m' t' w33 hr' hm' ht' hM33 => .inl ⟨_, rfl, hold_ops okT (rs := [.tmp 10]) rfl ?_⟩) (fun c2 w33 hc2 hM33 => by rw [hda] at hc2; simp at hc2)⟩
        have hM033 := hM32.trans hM33 (by simp)
        have hs33 := hM033.size
        have om' := ownsRow_one hm'
        have ot' := ownsRow_one ht'
        obtain ⟨⟨ya, yb, yc⟩, yd, ymbs, ytags⟩ := r'
        unfold rcV rcC
        simp only
        simp (maxSteps := 1000000) (disch := first | omega | (simp only [sizeAlloc, sizeDrew, sizeSet, sizePut] <;> omega) | fail) only [GS, TT_eq, TTl, Nat.reduceAdd, Nat.reduceMul, Nat.reduceSub, Nat.reduceDiv, Nat.reduceMod, Nat.reducePow, Nat.reduceEqDiff, ↓reduceIte, reduceCtorEq, Int.reduceToNat, Int.reduceAdd, Int.reduceSub, Int.reduceMul, hc0', cellsL_one om', om', cellsL_one ot', ot', eq_self]
        have hM34 : Mod [] w (((((((w33.alloc (.cells #[.int .i64 0, .int .i64 0, .int .i64 0, .int .i64 0, .slice none 0 0, .slice none 0 0] 27)).setCell ⟨w33.heap.size, 0, none⟩ (.int .i64 ya)).setCell ⟨w33.heap.size, 1, none⟩ (.int .i64 yb)).setCell ⟨w33.heap.size, 2, none⟩ (.int .i64 yc)).setCell ⟨w33.heap.size, 3, none⟩ (.int .i64 yd)).setCell ⟨w33.heap.size, 4, none⟩ m').setCell ⟨w33.heap.size, 5, none⟩ t') := (((((((hM033.alloc (.cells #[.int .i64 0, .int .i64 0, .int .i64 0, .int .i64 0, .slice none 0 0, .slice none 0 0] 27)).set (p := ⟨w33.heap.size, 0, none⟩) (.inr hs33) (.int .i64 ya)).set (p := ⟨w33.heap.size, 1, none⟩) (.inr hs33) (.int .i64 yb)).set (p := ⟨w33.heap.size, 2, none⟩) (.inr hs33) (.int .i64 yc)).set (p := ⟨w33.heap.size, 3, none⟩) (.inr hs33) (.int .i64 yd)).set (p := ⟨w33.heap.size, 4, none⟩) (.inr hs33) m').set (p := ⟨w33.heap.size, 5, none⟩) (.inr hs33) t')
        revert hM34
        generalize (((((((w33.alloc (.cells #[.int .i64 0, .int .i64 0, .int .i64 0, .int .i64 0, .slice none 0 0, .slice none 0 0] 27)).setCell ⟨w33.heap.size, 0, none⟩ (.int .i64 ya)).setCell ⟨w33.heap.size, 1, none⟩ (.int .i64 yb)).setCell ⟨w33.heap.size, 2, none⟩ (.int .i64 yc)).setCell ⟨w33.heap.size, 3, none⟩ (.int .i64 yd)).setCell ⟨w33.heap.size, 4, none⟩ m').setCell ⟨w33.heap.size, 5, none⟩ t') = w34
        intro hM34
        refine ⟨fok8, alive26_cps _ _ fun w30 hM30 => .inl ⟨_, rfl, hold_ops okT (rs := [.tmp 10]) rfl ?_⟩⟩
        simp (maxSteps := 1000000) (disch := first | omega | (simp only [sizeAlloc, sizeDrew, sizeSet, sizePut] <;> omega) | fail) only [GS, TT_eq, TTl, Nat.reduceAdd, Nat.reduceMul, Nat.reduceSub, Nat.reduceDiv, Nat.reduceMod, Nat.reducePow, Nat.reduceEqDiff, ↓reduceIte, reduceCtorEq, Int.reduceToNat, Int.reduceAdd, Int.reduceSub, Int.reduceMul]
        exact hR _ (hM34.trans hM30 (by simp))
      | cons m0 mr =>
        have hse : ∀ r', decRc (a ++ (m0 :: mr)) = .ok r' → False := fun r' h' => by
          have := pre_term hcka (of_rc h').2.2
          simp at this
        simp (maxSteps := 1000000) (disch := first | omega | (simp only [sizeAlloc, sizeDrew, sizeSet, sizePut] <;> omega) | fail) only [GS, TT_eq, TTl, Nat.reduceAdd, Nat.reduceMul, Nat.reduceSub, Nat.reduceDiv, Nat.reduceMod, Nat.reducePow, Nat.reduceEqDiff, ↓reduceIte, reduceCtorEq, Int.reduceToNat, Int.reduceAdd, Int.reduceSub, Int.reduceMul]
        refine ⟨fok9, eDecode_cps (a ++ (m0 :: mr)) htl2 _ _ (fun r' _ _ _ hr' _ _ _ => absurd (hse r' hr') id) (fun c2 w33 hc2 hM33 => .inl ⟨_, rfl, hold_ops okT (rs := [.tmp 10]) rfl ?_⟩)⟩
        have hM033 := hM32.trans hM33 (by simp)
        have hs33 := hM033.size
        have hc20 : ¬ c2 = 0 := by have := (decRc_err hc2).1; omega
        unfold rcZ
        simp (maxSteps := 1000000) (disch := first | omega | (simp only [sizeAlloc, sizeDrew, sizeSet, sizePut] <;> omega) | fail) only [GS, TT_eq, TTl, Nat.reduceAdd, Nat.reduceMul, Nat.reduceSub, Nat.reduceDiv, Nat.reduceMod, Nat.reducePow, Nat.reduceEqDiff, ↓reduceIte, reduceCtorEq, Int.reduceToNat, Int.reduceAdd, Int.reduceSub, Int.reduceMul, hc0', hc20]
        have hM34 : Mod [] w (((((((w33.alloc (.cells #[.int .i64 0, .int .i64 0, .int .i64 0, .int .i64 0, .slice none 0 0, .slice none 0 0] 27)).setCell ⟨w33.heap.size, 0, none⟩ (.int .i64 0)).setCell ⟨w33.heap.size, 1, none⟩ (.int .i64 0)).setCell ⟨w33.heap.size, 2, none⟩ (.int .i64 0)).setCell ⟨w33.heap.size, 3, none⟩ (.int .i64 0)).setCell ⟨w33.heap.size, 4, none⟩ (.slice none 0 0)).setCell ⟨w33.heap.size, 5, none⟩ (.slice none 0 0)) := (((((((hM033.alloc (.cells #[.int .i64 0, .int .i64 0, .int .i64 0, .int .i64 0, .slice none 0 0, .slice none 0 0] 27)).set (p := ⟨w33.heap.size, 0, none⟩) (.inr hs33) (.int .i64 0)).set (p := ⟨w33.heap.size, 1, none⟩) (.inr hs33) (.int .i64 0)).set (p := ⟨w33.heap.size, 2, none⟩) (.inr hs33) (.int .i64 0)).set (p := ⟨w33.heap.size, 3, none⟩) (.inr hs33) (.int .i64 0)).set (p := ⟨w33.heap.size, 4, none⟩) (.inr hs33) (.slice none 0 0)).set (p := ⟨w33.heap.size, 5, none⟩) (.inr hs33) (.slice none 0 0))
        revert hM34
        generalize (((((((w33.alloc (.cells #[.int .i64 0, .int .i64 0, .int .i64 0, .int .i64 0, .slice none 0 0, .slice none 0 0] 27)).setCell ⟨w33.heap.size, 0, none⟩ (.int .i64 0)).setCell ⟨w33.heap.size, 1, none⟩ (.int .i64 0)).setCell ⟨w33.heap.size, 2, none⟩ (.int .i64 0)).setCell ⟨w33.heap.size, 3, none⟩ (.int .i64 0)).setCell ⟨w33.heap.size, 4, none⟩ (.slice none 0 0)).setCell ⟨w33.heap.size, 5, none⟩ (.slice none 0 0)) = w34
        intro hM34
        refine ⟨fok8, alive26_cps _ _ fun w30 hM30 => .inl ⟨_, rfl, hold_ops okT (rs := [.tmp 10]) rfl ?_⟩⟩
        simp (maxSteps := 1000000) (disch := first | omega | (simp only [sizeAlloc, sizeDrew, sizeSet, sizePut] <;> omega) | fail) only [GS, TT_eq, TTl, Nat.reduceAdd, Nat.reduceMul, Nat.reduceSub, Nat.reduceDiv, Nat.reduceMod, Nat.reducePow, Nat.reduceEqDiff, ↓reduceIte, reduceCtorEq, Int.reduceToNat, Int.reduceAdd, Int.reduceSub, Int.reduceMul]
        exact hR _ (hM34.trans hM30 (by simp))
    · simp (maxSteps := 1000000) (disch := first | omega | (simp only [sizeAlloc, sizeDrew, sizeSet, sizePut] <;> omega) | fail) only [GS, TT_eq, TTl, Nat.reduceAdd, Nat.reduceMul, Nat.reduceSub, Nat.reduceDiv, Nat.reduceMod, Nat.reducePow, Nat.reduceEqDiff, ↓reduceIte, reduceCtorEq, Int.reduceToNat, Int.reduceAdd, Int.reduceSub, Int.reduceMul, cR, hmx]
      refine ⟨fok14, hownA _ (hmA.mod hMR) _ fun sv1 su1 w20 how1 hot1 hM20 => .inl ⟨_, rfl, hold_ops okT (rs := [.tmp 10]) rfl ?_⟩⟩
      simp (maxSteps := 1000000) (disch := first | omega | (simp only [sizeAlloc, sizeDrew, sizeSet, sizePut] <;> omega) | fail) only [GS, TT_eq, TTl, Nat.reduceAdd, Nat.reduceMul, Nat.reduceSub, Nat.reduceDiv, Nat.reduceMod, Nat.reducePow, Nat.reduceEqDiff, ↓reduceIte, reduceCtorEq, Int.reduceToNat, Int.reduceAdd, Int.reduceSub, Int.reduceMul]
      refine ⟨fok10, hencA sv1 su1 _ ⟨hmA.aud, hmA.mlen, hmA.mdig, Rd.own how1, hmA.tlen, hmA.tdig, Rd.own hot1⟩ _ fun w21 hM21 => .inl ⟨_, rfl, hold_ops okT (rs := [.tmp 10]) rfl ?_⟩⟩
      have hM1 := (hMR.trans hM20 (by simp)).trans hM21 (by simp)
      have hA1 := (hM20.trans hM21 (by simp)).get hAR (by simp)
      have hB1 := (hM20.trans hM21 (by simp)).get hBR (by simp)
      have c1 := fun o => cellOf (o := o) hA1
      have d1 := fun o => cellOf (o := o) hB1
      clear hM20 hM21 how1 hot1 hAR hBR hMR
      unfold stV
      simp (maxSteps := 1000000) (disch := first | omega | (simp only [sizeAlloc, sizeDrew, sizeSet, sizePut] <;> omega) | fail) only [GS, TT_eq, TTl, Nat.reduceAdd, Nat.reduceMul, Nat.reduceSub, Nat.reduceDiv, Nat.reduceMod, Nat.reducePow, Nat.reduceEqDiff, ↓reduceIte, reduceCtorEq, Int.reduceToNat, Int.reduceAdd, Int.reduceSub, Int.reduceMul, d1]
      refine ⟨fok14, hownB _ (hmB.mod hM1) _ fun sv2 su2 w22 how2 hot2 hM22 => .inl ⟨_, rfl, hold_ops okT (rs := [.tmp 10]) rfl ?_⟩⟩
      simp (maxSteps := 1000000) (disch := first | omega | (simp only [sizeAlloc, sizeDrew, sizeSet, sizePut] <;> omega) | fail) only [GS, TT_eq, TTl, Nat.reduceAdd, Nat.reduceMul, Nat.reduceSub, Nat.reduceDiv, Nat.reduceMod, Nat.reducePow, Nat.reduceEqDiff, ↓reduceIte, reduceCtorEq, Int.reduceToNat, Int.reduceAdd, Int.reduceSub, Int.reduceMul]
      refine ⟨fok10, hencB sv2 su2 _ ⟨hmB.aud, hmB.mlen, hmB.mdig, Rd.own how2, hmB.tlen, hmB.tdig, Rd.own hot2⟩ _ fun w23 hM23 => .inl ⟨_, rfl, hold_ops okT (rs := [.tmp 10]) rfl ?_⟩⟩
      have hM2 := (hM1.trans hM22 (by simp)).trans hM23 (by simp)
      have hA2 := (hM22.trans hM23 (by simp)).get hA1 (by simp)
      have hB2 := (hM22.trans hM23 (by simp)).get hB1 (by simp)
      have c2 := fun o => cellOf (o := o) hA2
      have d2 := fun o => cellOf (o := o) hB2
      clear hM22 hM23 how2 hot2 c1 d1 hA1 hB1 hM1
      unfold stV
      generalize hPa : encR ⟨(ra, rb, rc), rd, rmbs, rtags⟩ = Pa at *
      generalize hPb : encR ⟨(sa, sb, sc), sd, smbs, stags⟩ = Pb at *
      obtain ⟨a, f⟩ := Pa
      obtain ⟨b, g⟩ := Pb
      simp only
      by_cases hf : f = 0
      rotate_left
      · simp (maxSteps := 1000000) (disch := first | omega | (simp only [sizeAlloc, sizeDrew, sizeSet, sizePut] <;> omega) | fail) only [GS, TT_eq, TTl, Nat.reduceAdd, Nat.reduceMul, Nat.reduceSub, Nat.reduceDiv, Nat.reduceMod, Nat.reducePow, Nat.reduceEqDiff, ↓reduceIte, reduceCtorEq, Int.reduceToNat, Int.reduceAdd, Int.reduceSub, Int.reduceMul, hf]
        refine ⟨fok8, alive26_cps _ _ fun w30 hM30 => .inl ⟨_, rfl, hold_ops okT (rs := [.tmp 10]) rfl ?_⟩⟩
        simp (maxSteps := 1000000) (disch := first | omega | (simp only [sizeAlloc, sizeDrew, sizeSet, sizePut] <;> omega) | fail) only [GS, TT_eq, TTl, Nat.reduceAdd, Nat.reduceMul, Nat.reduceSub, Nat.reduceDiv, Nat.reduceMod, Nat.reducePow, Nat.reduceEqDiff, ↓reduceIte, reduceCtorEq, Int.reduceToNat, Int.reduceAdd, Int.reduceSub, Int.reduceMul]
        exact hR _ (hM2.trans hM30 (by simp))
      subst hf
      obtain ⟨hda, hmya, hcka⟩ := rc_back hPa
      obtain ⟨-, -, hla, hla1⟩ := check0 hcka
      have hane : ¬ a = [] := fun e => by rw [e] at hla1; simp at hla1
      have hcmlt := Nat.mod_lt cut (show 0 < a.length by omega)
      have htm : ((cut : Nat) : Int).tmod ((a.length : Nat) : Int) = ((cut % a.length : Nat) : Int) := (Int.ofNat_tmod _ _).symm
      generalize cut % a.length = cm at hcmlt htm
      have hsl : ∀ r', decRc (a.take cm) = .ok r' → False := fun r' h' => by
        have h2 := (of_rc h').2.2
        have h3 := pre_term (x := a.drop cm) h2 (by rw [List.take_append_drop]; exact hcka)
        have h4 := congrArg List.length h3
        rw [List.length_drop, List.length_nil] at h4
        omega
      by_cases hg : g = 0
      rotate_left
      · simp (maxSteps := 1000000) (disch := first | omega | (simp only [sizeAlloc, sizeDrew, sizeSet, sizePut] <;> omega) | fail) only [GS, TT_eq, TTl, Nat.reduceAdd, Nat.reduceMul, Nat.reduceSub, Nat.reduceDiv, Nat.reduceMod, Nat.reducePow, Nat.reduceEqDiff, ↓reduceIte, reduceCtorEq, Int.reduceToNat, Int.reduceAdd, Int.reduceSub, Int.reduceMul, hg, hane, htm, Int.toNat_natCast]
        have hsz31 := hM2.size
        have htl : (a.take cm).length ≤ maxLen := by rw [List.length_take]; unfold maxLen; omega
        refine ⟨fok9, eDecode_cps (a.take cm) htl _ _ (fun r' _ _ _ hr' _ _ _ => absurd (hsl r' hr') id) (fun c' w31 hc' hM31 => .inl ⟨_, rfl, hold_ops okT (rs := [.tmp 10]) rfl ?_⟩)⟩
        have hc0' : ¬ c' = 0 := by have := (decRc_err hc').1; omega
        have hM031 := hM2.trans hM31 (by simp)
        have hs31 := hM031.size
        unfold rcZ
        simp (maxSteps := 1000000) (disch := first | omega | (simp only [sizeAlloc, sizeDrew, sizeSet, sizePut] <;> omega) | fail) only [GS, TT_eq, TTl, Nat.reduceAdd, Nat.reduceMul, Nat.reduceSub, Nat.reduceDiv, Nat.reduceMod, Nat.reducePow, Nat.reduceEqDiff, ↓reduceIte, reduceCtorEq, Int.reduceToNat, Int.reduceAdd, Int.reduceSub, Int.reduceMul, hc0']
        have hM32 : Mod [] w (((((((w31.alloc (.cells #[.int .i64 0, .int .i64 0, .int .i64 0, .int .i64 0, .slice none 0 0, .slice none 0 0] 27)).setCell ⟨w31.heap.size, 0, none⟩ (.int .i64 0)).setCell ⟨w31.heap.size, 1, none⟩ (.int .i64 0)).setCell ⟨w31.heap.size, 2, none⟩ (.int .i64 0)).setCell ⟨w31.heap.size, 3, none⟩ (.int .i64 0)).setCell ⟨w31.heap.size, 4, none⟩ (.slice none 0 0)).setCell ⟨w31.heap.size, 5, none⟩ (.slice none 0 0)) := (((((((hM031.alloc (.cells #[.int .i64 0, .int .i64 0, .int .i64 0, .int .i64 0, .slice none 0 0, .slice none 0 0] 27)).set (p := ⟨w31.heap.size, 0, none⟩) (.inr hs31) (.int .i64 0)).set (p := ⟨w31.heap.size, 1, none⟩) (.inr hs31) (.int .i64 0)).set (p := ⟨w31.heap.size, 2, none⟩) (.inr hs31) (.int .i64 0)).set (p := ⟨w31.heap.size, 3, none⟩) (.inr hs31) (.int .i64 0)).set (p := ⟨w31.heap.size, 4, none⟩) (.inr hs31) (.slice none 0 0)).set (p := ⟨w31.heap.size, 5, none⟩) (.inr hs31) (.slice none 0 0))
        revert hM32
        generalize (((((((w31.alloc (.cells #[.int .i64 0, .int .i64 0, .int .i64 0, .int .i64 0, .slice none 0 0, .slice none 0 0] 27)).setCell ⟨w31.heap.size, 0, none⟩ (.int .i64 0)).setCell ⟨w31.heap.size, 1, none⟩ (.int .i64 0)).setCell ⟨w31.heap.size, 2, none⟩ (.int .i64 0)).setCell ⟨w31.heap.size, 3, none⟩ (.int .i64 0)).setCell ⟨w31.heap.size, 4, none⟩ (.slice none 0 0)).setCell ⟨w31.heap.size, 5, none⟩ (.slice none 0 0)) = w32
        generalize w31.heap.size = b31
        intro hM32
        have htl2 : (a ++ more).length ≤ maxLen := by rw [List.length_append]; unfold maxLen; omega
        cases more with
        | nil =>
          simp (maxSteps := 1000000) (disch := first | omega | (simp only [sizeAlloc, sizeDrew, sizeSet, sizePut] <;> omega) | fail) only [GS, TT_eq, TTl, Nat.reduceAdd, Nat.reduceMul, Nat.reduceSub, Nat.reduceDiv, Nat.reduceMod, Nat.reducePow, Nat.reduceEqDiff, ↓reduceIte, reduceCtorEq, Int.reduceToNat, Int.reduceAdd, Int.reduceSub, Int.reduceMul, List.append_nil]
          refine ⟨fok9, eDecode_cps a (by unfold maxLen; omega) _ _ (fun r' m' t' w33 hr' hm' ht' hM33 => .inl ⟨_, rfl, hold_ops okT (rs := [.tmp 10]) rfl ?_⟩) (fun c2 w33 hc2 hM33 => by rw [hda] at hc2; simp at hc2)⟩
          have hM033 := hM32.trans hM33 (by simp)
          have hs33 := hM033.size
          have om' := ownsRow_one hm'
          have ot' := ownsRow_one ht'
          obtain ⟨⟨ya, yb, yc⟩, yd, ymbs, ytags⟩ := r'
          unfold rcV rcC
          simp only
          simp (maxSteps := 1000000) (disch := first | omega | (simp only [sizeAlloc, sizeDrew, sizeSet, sizePut] <;> omega) | fail) only [GS, TT_eq, TTl, Nat.reduceAdd, Nat.reduceMul, Nat.reduceSub, Nat.reduceDiv, Nat.reduceMod, Nat.reducePow, Nat.reduceEqDiff, ↓reduceIte, reduceCtorEq, Int.reduceToNat, Int.reduceAdd, Int.reduceSub, Int.reduceMul, hc0', cellsL_one om', om', cellsL_one ot', ot', eq_self]
          have hM34 : Mod [] w (((((((w33.alloc (.cells #[.int .i64 0, .int .i64 0, .int .i64 0, .int .i64 0, .slice none 0 0, .slice none 0 0] 27)).setCell ⟨w33.heap.size, 0, none⟩ (.int .i64 ya)).setCell ⟨w33.heap.size, 1, none⟩ (.int .i64 yb)).setCell ⟨w33.heap.size, 2, none⟩ (.int .i64 yc)).setCell ⟨w33.heap.size, 3, none⟩ (.int .i64 yd)).setCell ⟨w33.heap.size, 4, none⟩ m').setCell ⟨w33.heap.size, 5, none⟩ t') := (((((((hM033.alloc (.cells #[.int .i64 0, .int .i64 0, .int .i64 0, .int .i64 0, .slice none 0 0, .slice none 0 0] 27)).set (p := ⟨w33.heap.size, 0, none⟩) (.inr hs33) (.int .i64 ya)).set (p := ⟨w33.heap.size, 1, none⟩) (.inr hs33) (.int .i64 yb)).set (p := ⟨w33.heap.size, 2, none⟩) (.inr hs33) (.int .i64 yc)).set (p := ⟨w33.heap.size, 3, none⟩) (.inr hs33) (.int .i64 yd)).set (p := ⟨w33.heap.size, 4, none⟩) (.inr hs33) m').set (p := ⟨w33.heap.size, 5, none⟩) (.inr hs33) t')
          revert hM34
          generalize (((((((w33.alloc (.cells #[.int .i64 0, .int .i64 0, .int .i64 0, .int .i64 0, .slice none 0 0, .slice none 0 0] 27)).setCell ⟨w33.heap.size, 0, none⟩ (.int .i64 ya)).setCell ⟨w33.heap.size, 1, none⟩ (.int .i64 yb)).setCell ⟨w33.heap.size, 2, none⟩ (.int .i64 yc)).setCell ⟨w33.heap.size, 3, none⟩ (.int .i64 yd)).setCell ⟨w33.heap.size, 4, none⟩ m').setCell ⟨w33.heap.size, 5, none⟩ t') = w34
          intro hM34
          refine ⟨fok8, alive26_cps _ _ fun w30 hM30 => .inl ⟨_, rfl, hold_ops okT (rs := [.tmp 10]) rfl ?_⟩⟩
          simp (maxSteps := 1000000) (disch := first | omega | (simp only [sizeAlloc, sizeDrew, sizeSet, sizePut] <;> omega) | fail) only [GS, TT_eq, TTl, Nat.reduceAdd, Nat.reduceMul, Nat.reduceSub, Nat.reduceDiv, Nat.reduceMod, Nat.reducePow, Nat.reduceEqDiff, ↓reduceIte, reduceCtorEq, Int.reduceToNat, Int.reduceAdd, Int.reduceSub, Int.reduceMul]
          exact hR _ (hM34.trans hM30 (by simp))
        | cons m0 mr =>
          have hse : ∀ r', decRc (a ++ (m0 :: mr)) = .ok r' → False := fun r' h' => by
            have := pre_term hcka (of_rc h').2.2
            simp at this
          simp (maxSteps := 1000000) (disch := first | omega | (simp only [sizeAlloc, sizeDrew, sizeSet, sizePut] <;> omega) | fail) only [GS, TT_eq, TTl, Nat.reduceAdd, Nat.reduceMul, Nat.reduceSub, Nat.reduceDiv, Nat.reduceMod, Nat.reducePow, Nat.reduceEqDiff, ↓reduceIte, reduceCtorEq, Int.reduceToNat, Int.reduceAdd, Int.reduceSub, Int.reduceMul]
          refine ⟨fok9, eDecode_cps (a ++ (m0 :: mr)) htl2 _ _ (fun r' _ _ _ hr' _ _ _ => absurd (hse r' hr') id) (fun c2 w33 hc2 hM33 => .inl ⟨_, rfl, hold_ops okT (rs := [.tmp 10]) rfl ?_⟩)⟩
          have hM033 := hM32.trans hM33 (by simp)
          have hs33 := hM033.size
          have hc20 : ¬ c2 = 0 := by have := (decRc_err hc2).1; omega
          unfold rcZ
          simp (maxSteps := 1000000) (disch := first | omega | (simp only [sizeAlloc, sizeDrew, sizeSet, sizePut] <;> omega) | fail) only [GS, TT_eq, TTl, Nat.reduceAdd, Nat.reduceMul, Nat.reduceSub, Nat.reduceDiv, Nat.reduceMod, Nat.reducePow, Nat.reduceEqDiff, ↓reduceIte, reduceCtorEq, Int.reduceToNat, Int.reduceAdd, Int.reduceSub, Int.reduceMul, hc0', hc20]
          have hM34 : Mod [] w (((((((w33.alloc (.cells #[.int .i64 0, .int .i64 0, .int .i64 0, .int .i64 0, .slice none 0 0, .slice none 0 0] 27)).setCell ⟨w33.heap.size, 0, none⟩ (.int .i64 0)).setCell ⟨w33.heap.size, 1, none⟩ (.int .i64 0)).setCell ⟨w33.heap.size, 2, none⟩ (.int .i64 0)).setCell ⟨w33.heap.size, 3, none⟩ (.int .i64 0)).setCell ⟨w33.heap.size, 4, none⟩ (.slice none 0 0)).setCell ⟨w33.heap.size, 5, none⟩ (.slice none 0 0)) := (((((((hM033.alloc (.cells #[.int .i64 0, .int .i64 0, .int .i64 0, .int .i64 0, .slice none 0 0, .slice none 0 0] 27)).set (p := ⟨w33.heap.size, 0, none⟩) (.inr hs33) (.int .i64 0)).set (p := ⟨w33.heap.size, 1, none⟩) (.inr hs33) (.int .i64 0)).set (p := ⟨w33.heap.size, 2, none⟩) (.inr hs33) (.int .i64 0)).set (p := ⟨w33.heap.size, 3, none⟩) (.inr hs33) (.int .i64 0)).set (p := ⟨w33.heap.size, 4, none⟩) (.inr hs33) (.slice none 0 0)).set (p := ⟨w33.heap.size, 5, none⟩) (.inr hs33) (.slice none 0 0))
          revert hM34
          generalize (((((((w33.alloc (.cells #[.int .i64 0, .int .i64 0, .int .i64 0, .int .i64 0, .slice none 0 0, .slice none 0 0] 27)).setCell ⟨w33.heap.size, 0, none⟩ (.int .i64 0)).setCell ⟨w33.heap.size, 1, none⟩ (.int .i64 0)).setCell ⟨w33.heap.size, 2, none⟩ (.int .i64 0)).setCell ⟨w33.heap.size, 3, none⟩ (.int .i64 0)).setCell ⟨w33.heap.size, 4, none⟩ (.slice none 0 0)).setCell ⟨w33.heap.size, 5, none⟩ (.slice none 0 0)) = w34
          intro hM34
          refine ⟨fok8, alive26_cps _ _ fun w30 hM30 => .inl ⟨_, rfl, hold_ops okT (rs := [.tmp 10]) rfl ?_⟩⟩
          simp (maxSteps := 1000000) (disch := first | omega | (simp only [sizeAlloc, sizeDrew, sizeSet, sizePut] <;> omega) | fail) only [GS, TT_eq, TTl, Nat.reduceAdd, Nat.reduceMul, Nat.reduceSub, Nat.reduceDiv, Nat.reduceMod, Nat.reducePow, Nat.reduceEqDiff, ↓reduceIte, reduceCtorEq, Int.reduceToNat, Int.reduceAdd, Int.reduceSub, Int.reduceMul]
          exact hR _ (hM34.trans hM30 (by simp))
      subst hg
      have hab : decide (a = b) = decide (SameQ ⟨(ra, rb, rc), rd, rmbs, rtags⟩ ⟨(sa, sb, sc), sd, smbs, stags⟩) := by
        rw [decide_eq_decide, sameQ_iff]
        refine ⟨fun e => ?_, fun e => ?_⟩
        · have h4 := (rc_back hPb).1
          rw [← e, hda] at h4
          exact Except.ok.inj h4
        · rw [e, hPb] at hPa
          exact (Prod.mk.inj hPa).1.symm
      simp (maxSteps := 1000000) (disch := first | omega | (simp only [sizeAlloc, sizeDrew, sizeSet, sizePut] <;> omega) | fail) only [GS, TT_eq, TTl, Nat.reduceAdd, Nat.reduceMul, Nat.reduceSub, Nat.reduceDiv, Nat.reduceMod, Nat.reducePow, Nat.reduceEqDiff, ↓reduceIte, reduceCtorEq, Int.reduceToNat, Int.reduceAdd, Int.reduceSub, Int.reduceMul, c2, d2, hane]
      refine ⟨fok13, hsame _ (hmA.mrd.mod hM2 (by simp)) (hmB.mrd.mod hM2 (by simp)) (hmA.trd.mod hM2 (by simp)) (hmB.trd.mod hM2 (by simp)) _ fun w24 hM24 => .inl ⟨_, rfl, hold_ops okT (rs := [.tmp 10]) rfl ?_⟩⟩
      have hM02 := hM2.trans hM24 (by simp)
      rw [hab]
      have hbq : beq2 (decide (SameQ ⟨(ra, rb, rc), rd, rmbs, rtags⟩ ⟨(sa, sb, sc), sd, smbs, stags⟩)) (decide (SameQ ⟨(ra, rb, rc), rd, rmbs, rtags⟩ ⟨(sa, sb, sc), sd, smbs, stags⟩)) = true := by cases decide (SameQ ⟨(ra, rb, rc), rd, rmbs, rtags⟩ ⟨(sa, sb, sc), sd, smbs, stags⟩) <;> rfl
      simp (maxSteps := 1000000) (disch := first | omega | (simp only [sizeAlloc, sizeDrew, sizeSet, sizePut] <;> omega) | fail) only [GS, TT_eq, TTl, Nat.reduceAdd, Nat.reduceMul, Nat.reduceSub, Nat.reduceDiv, Nat.reduceMod, Nat.reducePow, Nat.reduceEqDiff, ↓reduceIte, reduceCtorEq, Int.reduceToNat, Int.reduceAdd, Int.reduceSub, Int.reduceMul, hbq, hane, htm, Int.toNat_natCast]
      have hsz31 := hM02.size
      have htl : (a.take cm).length ≤ maxLen := by rw [List.length_take]; unfold maxLen; omega
      refine ⟨fok9, eDecode_cps (a.take cm) htl _ _ (fun r' _ _ _ hr' _ _ _ => absurd (hsl r' hr') id) (fun c' w31 hc' hM31 => .inl ⟨_, rfl, hold_ops okT (rs := [.tmp 10]) rfl ?_⟩)⟩
      have hc0' : ¬ c' = 0 := by have := (decRc_err hc').1; omega
      have hM031 := hM02.trans hM31 (by simp)
      have hs31 := hM031.size
      unfold rcZ
      simp (maxSteps := 1000000) (disch := first | omega | (simp only [sizeAlloc, sizeDrew, sizeSet, sizePut] <;> omega) | fail) only [GS, TT_eq, TTl, Nat.reduceAdd, Nat.reduceMul, Nat.reduceSub, Nat.reduceDiv, Nat.reduceMod, Nat.reducePow, Nat.reduceEqDiff, ↓reduceIte, reduceCtorEq, Int.reduceToNat, Int.reduceAdd, Int.reduceSub, Int.reduceMul, hc0']
      have hM32 : Mod [] w (((((((w31.alloc (.cells #[.int .i64 0, .int .i64 0, .int .i64 0, .int .i64 0, .slice none 0 0, .slice none 0 0] 27)).setCell ⟨w31.heap.size, 0, none⟩ (.int .i64 0)).setCell ⟨w31.heap.size, 1, none⟩ (.int .i64 0)).setCell ⟨w31.heap.size, 2, none⟩ (.int .i64 0)).setCell ⟨w31.heap.size, 3, none⟩ (.int .i64 0)).setCell ⟨w31.heap.size, 4, none⟩ (.slice none 0 0)).setCell ⟨w31.heap.size, 5, none⟩ (.slice none 0 0)) := (((((((hM031.alloc (.cells #[.int .i64 0, .int .i64 0, .int .i64 0, .int .i64 0, .slice none 0 0, .slice none 0 0] 27)).set (p := ⟨w31.heap.size, 0, none⟩) (.inr hs31) (.int .i64 0)).set (p := ⟨w31.heap.size, 1, none⟩) (.inr hs31) (.int .i64 0)).set (p := ⟨w31.heap.size, 2, none⟩) (.inr hs31) (.int .i64 0)).set (p := ⟨w31.heap.size, 3, none⟩) (.inr hs31) (.int .i64 0)).set (p := ⟨w31.heap.size, 4, none⟩) (.inr hs31) (.slice none 0 0)).set (p := ⟨w31.heap.size, 5, none⟩) (.inr hs31) (.slice none 0 0))
      revert hM32
      generalize (((((((w31.alloc (.cells #[.int .i64 0, .int .i64 0, .int .i64 0, .int .i64 0, .slice none 0 0, .slice none 0 0] 27)).setCell ⟨w31.heap.size, 0, none⟩ (.int .i64 0)).setCell ⟨w31.heap.size, 1, none⟩ (.int .i64 0)).setCell ⟨w31.heap.size, 2, none⟩ (.int .i64 0)).setCell ⟨w31.heap.size, 3, none⟩ (.int .i64 0)).setCell ⟨w31.heap.size, 4, none⟩ (.slice none 0 0)).setCell ⟨w31.heap.size, 5, none⟩ (.slice none 0 0)) = w32
      generalize w31.heap.size = b31
      intro hM32
      have htl2 : (a ++ more).length ≤ maxLen := by rw [List.length_append]; unfold maxLen; omega
      cases more with
      | nil =>
        simp (maxSteps := 1000000) (disch := first | omega | (simp only [sizeAlloc, sizeDrew, sizeSet, sizePut] <;> omega) | fail) only [GS, TT_eq, TTl, Nat.reduceAdd, Nat.reduceMul, Nat.reduceSub, Nat.reduceDiv, Nat.reduceMod, Nat.reducePow, Nat.reduceEqDiff, ↓reduceIte, reduceCtorEq, Int.reduceToNat, Int.reduceAdd, Int.reduceSub, Int.reduceMul, List.append_nil]
        refine ⟨fok9, eDecode_cps a (by unfold maxLen; omega) _ _ (fun r' m' t' w33 hr' hm' ht' hM33 => .inl ⟨_, rfl, hold_ops okT (rs := [.tmp 10]) rfl ?_⟩) (fun c2 w33 hc2 hM33 => by rw [hda] at hc2; simp at hc2)⟩
        have hM033 := hM32.trans hM33 (by simp)
        have hs33 := hM033.size
        have om' := ownsRow_one hm'
        have ot' := ownsRow_one ht'
        obtain ⟨⟨ya, yb, yc⟩, yd, ymbs, ytags⟩ := r'
        unfold rcV rcC
        simp only
        simp (maxSteps := 1000000) (disch := first | omega | (simp only [sizeAlloc, sizeDrew, sizeSet, sizePut] <;> omega) | fail) only [GS, TT_eq, TTl, Nat.reduceAdd, Nat.reduceMul, Nat.reduceSub, Nat.reduceDiv, Nat.reduceMod, Nat.reducePow, Nat.reduceEqDiff, ↓reduceIte, reduceCtorEq, Int.reduceToNat, Int.reduceAdd, Int.reduceSub, Int.reduceMul, hc0', cellsL_one om', om', cellsL_one ot', ot', eq_self]
        have hM34 : Mod [] w (((((((w33.alloc (.cells #[.int .i64 0, .int .i64 0, .int .i64 0, .int .i64 0, .slice none 0 0, .slice none 0 0] 27)).setCell ⟨w33.heap.size, 0, none⟩ (.int .i64 ya)).setCell ⟨w33.heap.size, 1, none⟩ (.int .i64 yb)).setCell ⟨w33.heap.size, 2, none⟩ (.int .i64 yc)).setCell ⟨w33.heap.size, 3, none⟩ (.int .i64 yd)).setCell ⟨w33.heap.size, 4, none⟩ m').setCell ⟨w33.heap.size, 5, none⟩ t') := (((((((hM033.alloc (.cells #[.int .i64 0, .int .i64 0, .int .i64 0, .int .i64 0, .slice none 0 0, .slice none 0 0] 27)).set (p := ⟨w33.heap.size, 0, none⟩) (.inr hs33) (.int .i64 ya)).set (p := ⟨w33.heap.size, 1, none⟩) (.inr hs33) (.int .i64 yb)).set (p := ⟨w33.heap.size, 2, none⟩) (.inr hs33) (.int .i64 yc)).set (p := ⟨w33.heap.size, 3, none⟩) (.inr hs33) (.int .i64 yd)).set (p := ⟨w33.heap.size, 4, none⟩) (.inr hs33) m').set (p := ⟨w33.heap.size, 5, none⟩) (.inr hs33) t')
        revert hM34
        generalize (((((((w33.alloc (.cells #[.int .i64 0, .int .i64 0, .int .i64 0, .int .i64 0, .slice none 0 0, .slice none 0 0] 27)).setCell ⟨w33.heap.size, 0, none⟩ (.int .i64 ya)).setCell ⟨w33.heap.size, 1, none⟩ (.int .i64 yb)).setCell ⟨w33.heap.size, 2, none⟩ (.int .i64 yc)).setCell ⟨w33.heap.size, 3, none⟩ (.int .i64 yd)).setCell ⟨w33.heap.size, 4, none⟩ m').setCell ⟨w33.heap.size, 5, none⟩ t') = w34
        intro hM34
        refine ⟨fok8, alive26_cps _ _ fun w30 hM30 => .inl ⟨_, rfl, hold_ops okT (rs := [.tmp 10]) rfl ?_⟩⟩
        simp (maxSteps := 1000000) (disch := first | omega | (simp only [sizeAlloc, sizeDrew, sizeSet, sizePut] <;> omega) | fail) only [GS, TT_eq, TTl, Nat.reduceAdd, Nat.reduceMul, Nat.reduceSub, Nat.reduceDiv, Nat.reduceMod, Nat.reducePow, Nat.reduceEqDiff, ↓reduceIte, reduceCtorEq, Int.reduceToNat, Int.reduceAdd, Int.reduceSub, Int.reduceMul]
        exact hR _ (hM34.trans hM30 (by simp))
      | cons m0 mr =>
        have hse : ∀ r', decRc (a ++ (m0 :: mr)) = .ok r' → False := fun r' h' => by
          have := pre_term hcka (of_rc h').2.2
          simp at this
        simp (maxSteps := 1000000) (disch := first | omega | (simp only [sizeAlloc, sizeDrew, sizeSet, sizePut] <;> omega) | fail) only [GS, TT_eq, TTl, Nat.reduceAdd, Nat.reduceMul, Nat.reduceSub, Nat.reduceDiv, Nat.reduceMod, Nat.reducePow, Nat.reduceEqDiff, ↓reduceIte, reduceCtorEq, Int.reduceToNat, Int.reduceAdd, Int.reduceSub, Int.reduceMul]
        refine ⟨fok9, eDecode_cps (a ++ (m0 :: mr)) htl2 _ _ (fun r' _ _ _ hr' _ _ _ => absurd (hse r' hr') id) (fun c2 w33 hc2 hM33 => .inl ⟨_, rfl, hold_ops okT (rs := [.tmp 10]) rfl ?_⟩)⟩
        have hM033 := hM32.trans hM33 (by simp)
        have hs33 := hM033.size
        have hc20 : ¬ c2 = 0 := by have := (decRc_err hc2).1; omega
        unfold rcZ
        simp (maxSteps := 1000000) (disch := first | omega | (simp only [sizeAlloc, sizeDrew, sizeSet, sizePut] <;> omega) | fail) only [GS, TT_eq, TTl, Nat.reduceAdd, Nat.reduceMul, Nat.reduceSub, Nat.reduceDiv, Nat.reduceMod, Nat.reducePow, Nat.reduceEqDiff, ↓reduceIte, reduceCtorEq, Int.reduceToNat, Int.reduceAdd, Int.reduceSub, Int.reduceMul, hc0', hc20]
        have hM34 : Mod [] w (((((((w33.alloc (.cells #[.int .i64 0, .int .i64 0, .int .i64 0, .int .i64 0, .slice none 0 0, .slice none 0 0] 27)).setCell ⟨w33.heap.size, 0, none⟩ (.int .i64 0)).setCell ⟨w33.heap.size, 1, none⟩ (.int .i64 0)).setCell ⟨w33.heap.size, 2, none⟩ (.int .i64 0)).setCell ⟨w33.heap.size, 3, none⟩ (.int .i64 0)).setCell ⟨w33.heap.size, 4, none⟩ (.slice none 0 0)).setCell ⟨w33.heap.size, 5, none⟩ (.slice none 0 0)) := (((((((hM033.alloc (.cells #[.int .i64 0, .int .i64 0, .int .i64 0, .int .i64 0, .slice none 0 0, .slice none 0 0] 27)).set (p := ⟨w33.heap.size, 0, none⟩) (.inr hs33) (.int .i64 0)).set (p := ⟨w33.heap.size, 1, none⟩) (.inr hs33) (.int .i64 0)).set (p := ⟨w33.heap.size, 2, none⟩) (.inr hs33) (.int .i64 0)).set (p := ⟨w33.heap.size, 3, none⟩) (.inr hs33) (.int .i64 0)).set (p := ⟨w33.heap.size, 4, none⟩) (.inr hs33) (.slice none 0 0)).set (p := ⟨w33.heap.size, 5, none⟩) (.inr hs33) (.slice none 0 0))
        revert hM34
        generalize (((((((w33.alloc (.cells #[.int .i64 0, .int .i64 0, .int .i64 0, .int .i64 0, .slice none 0 0, .slice none 0 0] 27)).setCell ⟨w33.heap.size, 0, none⟩ (.int .i64 0)).setCell ⟨w33.heap.size, 1, none⟩ (.int .i64 0)).setCell ⟨w33.heap.size, 2, none⟩ (.int .i64 0)).setCell ⟨w33.heap.size, 3, none⟩ (.int .i64 0)).setCell ⟨w33.heap.size, 4, none⟩ (.slice none 0 0)).setCell ⟨w33.heap.size, 5, none⟩ (.slice none 0 0)) = w34
        intro hM34
        refine ⟨fok8, alive26_cps _ _ fun w30 hM30 => .inl ⟨_, rfl, hold_ops okT (rs := [.tmp 10]) rfl ?_⟩⟩
        simp (maxSteps := 1000000) (disch := first | omega | (simp only [sizeAlloc, sizeDrew, sizeSet, sizePut] <;> omega) | fail) only [GS, TT_eq, TTl, Nat.reduceAdd, Nat.reduceMul, Nat.reduceSub, Nat.reduceDiv, Nat.reduceMod, Nat.reducePow, Nat.reduceEqDiff, ↓reduceIte, reduceCtorEq, Int.reduceToNat, Int.reduceAdd, Int.reduceSub, Int.reduceMul]
        exact hR _ (hM34.trans hM30 (by simp))
end Go.Proofs.Ytpcilobbohokcaa
