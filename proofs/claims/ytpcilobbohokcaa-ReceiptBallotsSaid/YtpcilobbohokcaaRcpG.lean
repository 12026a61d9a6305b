/-
  ReceiptBallots (walk).
-/
import Derived.Test.YtpcilobbohokcaaRcpF
set_option linter.unusedSimpArgs false
set_option linter.unusedVariables false
namespace Go.Proofs.Ytpcilobbohokcaa
open Go Go.Wk Go.RowKit
attribute [local irreducible] go Hold
open Go.Lib
set_option maxRecDepth 20000 in
set_option maxHeartbeats 32000000 in
theorem balls_cps (r : Rcp) (sm st : Value) (org : Int) (w : World) (ha : RcpArg w r sm st) (R : Ending → World → Prop) (hR : ∀ w', Mod [] w w' → R (.returned (.bool true)) w') :
    Calls Try.prog 5 #[rcV r sm st, .int .i64 org] w R := by
  have hLg := fun w h => Long26_cps r sm st w h
  have hOw := fun w h => own26_cps r sm st w h
  have hBl := fun a b w h => eBallots_cps r a b w h
  have hCk := fun a b w h => eCheck_cps r a b w h
  have hNm := fun a b o w h => eNames_cps r a b o w h
  have hin0 := fun h => ha.in h
  have hA3 := fun w' (h : Mod [] w w') => (⟨ha.t1, ha.t2, ha.t3, ha.aud, ⟨ha.mbs.rd.mod h (by simp), ha.mbs.len, ha.mbs.dig, ha.mbs.org⟩, ha.trd.mod h (by simp), ha.tlen, ha.tdig⟩ : RcpArg w' r sm st)
  have hmay := @may_is r
  clear ha
  have hblA := blL_at r
  have hbc : ∀ v o, blC r v o = [.int .i64 r.tx.1, .int .i64 r.tx.2.1, .int .i64 r.tx.2.2, .int .i64 r.aud, v, .int .i64 o] := fun _ _ => rfl
  have hbln := blL_len r
  generalize blL r = BL at *
  generalize blC r = BC at *
  obtain ⟨⟨xa, xb, xc⟩, xd, mbs, tags⟩ := r
  generalize hM : mayR ⟨(xa, xb, xc), xd, mbs, tags⟩ = M at *
  clear hM
  unfold rcV rcC at *
  simp only at hLg hOw hBl hCk hNm hmay hbc ⊢
  have osm : sm.oneCell' = true := by obtain ⟨a, c, e⟩ := (hA3 w (Mod.refl _ _)).mbs.rd.slice; rw [e]; rfl
  have ost : st.oneCell' = true := by obtain ⟨a, c, e⟩ := (hA3 w (Mod.refl _ _)).trd.slice; rw [e]; rfl
  refine calls_go 4000 okT Try.func5 rfl (rs := [.tmp 4]) rfl Try.ntmps5 (args := [.agg #[.int .i64 xa, .int .i64 xb, .int .i64 xc, .int .i64 xd, sm, st], .int .i64 org]) ?_
  simp (maxSteps := 1000000) (disch := first | omega | (simp only [sizeAlloc, sizeDrew, sizeSet, sizePut] <;> omega) | fail) only [GS, TT_eq, TTl, Nat.reduceAdd, Nat.reduceMul, Nat.reduceSub, Nat.reduceDiv, Nat.reduceMod, Nat.reducePow, Nat.reduceEqDiff, ↓reduceIte, reduceCtorEq, Int.reduceToNat, Int.reduceAdd, Int.reduceSub, Int.reduceMul, osm, ost, cellsL_one osm, cellsL_one ost]
  have hM0 := (Mod.refl [] w).alloc (.cells #[.int .i64 xa, .int .i64 xb, .int .i64 xc, .int .i64 xd, sm, st] 27)
  have hA := heapNew (w := w) (o := .cells #[.int .i64 xa, .int .i64 xb, .int .i64 xc, .int .i64 xd, sm, st] 27)
  generalize w.alloc (.cells #[.int .i64 xa, .int .i64 xb, .int .i64 xc, .int .i64 xd, sm, st] 27) = w1 at hM0 hA ⊢
  generalize hn : w.heap.size = n at *
  refine ⟨fok7, hLg _ (hA3 _ hM0) _ fun w2 hM2 => .inl ⟨_, rfl, hold_ops okT (rs := [.tmp 4]) rfl ?_⟩⟩
  have hM02 := hM0.trans hM2 (by simp)
  have hA2 := hM2.get hA (by simp)
  cases hl : longR ⟨(xa, xb, xc), xd, mbs, tags⟩
  rotate_left
  · simp (maxSteps := 1000000) (disch := first | omega | (simp only [sizeAlloc, sizeDrew, sizeSet, sizePut] <;> omega) | fail) only [GS, TT_eq, TTl, Nat.reduceAdd, Nat.reduceMul, Nat.reduceSub, Nat.reduceDiv, Nat.reduceMod, Nat.reducePow, Nat.reduceEqDiff, ↓reduceIte, reduceCtorEq, Int.reduceToNat, Int.reduceAdd, Int.reduceSub, Int.reduceMul]
    refine ⟨fok8, alive26_cps _ _ fun w30 hM30 => .inl ⟨_, rfl, hold_ops okT (rs := [.tmp 4]) rfl ?_⟩⟩
    simp (maxSteps := 1000000) (disch := first | omega | (simp only [sizeAlloc, sizeDrew, sizeSet, sizePut] <;> omega) | fail) only [GS, TT_eq, TTl, Nat.reduceAdd, Nat.reduceMul, Nat.reduceSub, Nat.reduceDiv, Nat.reduceMod, Nat.reducePow, Nat.reduceEqDiff, ↓reduceIte, reduceCtorEq, Int.reduceToNat, Int.reduceAdd, Int.reduceSub, Int.reduceMul]
    exact hR _ (hM02.trans hM30 (by simp))
  have hin := hin0 hl
  have hml := hin.mlen
  have htl := hin.tlen
  have hmr := hin.mrd
  have htr := hin.trd
  simp only at hml htl hmr htr
  have hinW : ∀ w', Mod [] w w' → RcpIn w' ⟨(xa, xb, xc), xd, mbs, tags⟩ sm st := fun w' h => hin.mod h
  have hinO : ∀ (w' : World) (sv su : Value), Rd w' 2 sv mbs.length (mbs.flatMap mbC) → Rd w' 1 su tags.length (tags.map strV) → RcpIn w' ⟨(xa, xb, xc), xd, mbs, tags⟩ sv su := fun w' sv su h1 h2 => ⟨hin.aud, hin.mlen, hin.mdig, h1, hin.tlen, hin.tdig, h2⟩
  clear hin hin0 hA3 hLg hl hM0 hA hM2
  obtain ⟨pm, cm, rfl⟩ := hmr.slice
  obtain ⟨pt, ct, rfl⟩ := htr.slice
  have c2 := fun o => cellOf (o := o) hA2
  simp (maxSteps := 1000000) (disch := first | omega | (simp only [sizeAlloc, sizeDrew, sizeSet, sizePut] <;> omega) | fail) only [GS, TT_eq, TTl, Nat.reduceAdd, Nat.reduceMul, Nat.reduceSub, Nat.reduceDiv, Nat.reduceMod, Nat.reducePow, Nat.reduceEqDiff, ↓reduceIte, reduceCtorEq, Int.reduceToNat, Int.reduceAdd, Int.reduceSub, Int.reduceMul, c2]
  refine ⟨fok14, hOw _ (hinW _ hM02) _ fun sv1 su1 w3 how1 hot1 hM3 => .inl ⟨_, rfl, hold_ops okT (rs := [.tmp 4]) rfl ?_⟩⟩
  have hM03 := hM02.trans hM3 (by simp)
  simp (maxSteps := 1000000) (disch := first | omega | (simp only [sizeAlloc, sizeDrew, sizeSet, sizePut] <;> omega) | fail) only [GS, TT_eq, TTl, Nat.reduceAdd, Nat.reduceMul, Nat.reduceSub, Nat.reduceDiv, Nat.reduceMod, Nat.reducePow, Nat.reduceEqDiff, ↓reduceIte, reduceCtorEq, Int.reduceToNat, Int.reduceAdd, Int.reduceSub, Int.reduceMul]
  refine ⟨fok23, hBl sv1 su1 _ (hinO _ _ _ (Rd.own how1) (Rd.own hot1)) _ (fun sv vs w4 hMt hvs hown hM4 => .inl ⟨_, rfl, hold_ops okT (rs := [.tmp 4]) rfl ?_⟩) (fun hMf w4 hM4 => .inl ⟨_, rfl, hold_ops okT (rs := [.tmp 4]) rfl ?_⟩)⟩
  rotate_left
  · subst hMf
    have hA4 := (hM3.trans hM4 (by simp)).get hA2 (by simp)
    have c4 := fun o => cellOf (o := o) hA4
    have hM04 := hM03.trans hM4 (by simp)
    simp (maxSteps := 1000000) (disch := first | omega | (simp only [sizeAlloc, sizeDrew, sizeSet, sizePut] <;> omega) | fail) only [GS, TT_eq, TTl, Nat.reduceAdd, Nat.reduceMul, Nat.reduceSub, Nat.reduceDiv, Nat.reduceMod, Nat.reducePow, Nat.reduceEqDiff, ↓reduceIte, reduceCtorEq, Int.reduceToNat, Int.reduceAdd, Int.reduceSub, Int.reduceMul, c4]
    refine ⟨fok14, hOw _ (hinW _ hM04) _ fun sv2 su2 w5 how2 hot2 hM5 => .inl ⟨_, rfl, hold_ops okT (rs := [.tmp 4]) rfl ?_⟩⟩
    simp (maxSteps := 1000000) (disch := first | omega | (simp only [sizeAlloc, sizeDrew, sizeSet, sizePut] <;> omega) | fail) only [GS, TT_eq, TTl, Nat.reduceAdd, Nat.reduceMul, Nat.reduceSub, Nat.reduceDiv, Nat.reduceMod, Nat.reducePow, Nat.reduceEqDiff, ↓reduceIte, reduceCtorEq, Int.reduceToNat, Int.reduceAdd, Int.reduceSub, Int.reduceMul]
    refine ⟨fok11, hCk sv2 su2 _ (hinO _ _ _ (Rd.own how2) (Rd.own hot2)) _ fun w6 hM6 => .inl ⟨_, rfl, hold_ops okT (rs := [.tmp 4]) rfl ?_⟩⟩
    simp only [Bool.false_eq_true, if_false]
    simp (maxSteps := 1000000) (disch := first | omega | (simp only [sizeAlloc, sizeDrew, sizeSet, sizePut] <;> omega) | fail) only [GS, TT_eq, TTl, Nat.reduceAdd, Nat.reduceMul, Nat.reduceSub, Nat.reduceDiv, Nat.reduceMod, Nat.reducePow, Nat.reduceEqDiff, ↓reduceIte, reduceCtorEq, Int.reduceToNat, Int.reduceAdd, Int.reduceSub, Int.reduceMul]
    refine ⟨fok8, alive26_cps _ _ fun w30 hM30 => .inl ⟨_, rfl, hold_ops okT (rs := [.tmp 4]) rfl ?_⟩⟩
    simp (maxSteps := 1000000) (disch := first | omega | (simp only [sizeAlloc, sizeDrew, sizeSet, sizePut] <;> omega) | fail) only [GS, TT_eq, TTl, Nat.reduceAdd, Nat.reduceMul, Nat.reduceSub, Nat.reduceDiv, Nat.reduceMod, Nat.reducePow, Nat.reduceEqDiff, ↓reduceIte, reduceCtorEq, Int.reduceToNat, Int.reduceAdd, Int.reduceSub, Int.reduceMul]
    exact hR _ (((hM04.trans hM5 (by simp)).trans hM6 (by simp)).trans hM30 (by simp))
  subst hMt
  obtain ⟨-, -, hmB, hlen, -⟩ := hmay rfl
  have hmB' := hmB
  unfold mbB at hmB'
  rw [Bool.and_eq_true] at hmB'
  have huq := fun i j hi hj => mbs_uniq hmB'.1 i j hi hj
  have hM34 := hM3.trans hM4 (by simp)
  have hA4 := hM34.get hA2 (by simp)
  have c4 := fun o => cellOf (o := o) hA4
  have hM04 := hM03.trans hM4 (by simp)
  obtain ⟨pb, cb, rfl⟩ := (Rd.own hown).slice
  have hrb := Rd.own hown
  simp (maxSteps := 1000000) (disch := first | omega | (simp only [sizeAlloc, sizeDrew, sizeSet, sizePut] <;> omega) | fail) only [GS, TT_eq, TTl, Nat.reduceAdd, Nat.reduceMul, Nat.reduceSub, Nat.reduceDiv, Nat.reduceMod, Nat.reducePow, Nat.reduceEqDiff, ↓reduceIte, reduceCtorEq, Int.reduceToNat, Int.reduceAdd, Int.reduceSub, Int.reduceMul, c4]
  refine ⟨fok14, hOw _ (hinW _ hM04) _ fun sv2 su2 w5 how2 hot2 hM5 => .inl ⟨_, rfl, hold_ops okT (rs := [.tmp 4]) rfl ?_⟩⟩
  simp (maxSteps := 1000000) (disch := first | omega | (simp only [sizeAlloc, sizeDrew, sizeSet, sizePut] <;> omega) | fail) only [GS, TT_eq, TTl, Nat.reduceAdd, Nat.reduceMul, Nat.reduceSub, Nat.reduceDiv, Nat.reduceMod, Nat.reducePow, Nat.reduceEqDiff, ↓reduceIte, reduceCtorEq, Int.reduceToNat, Int.reduceAdd, Int.reduceSub, Int.reduceMul]
  refine ⟨fok11, hCk sv2 su2 _ (hinO _ _ _ (Rd.own how2) (Rd.own hot2)) _ fun w6 hM6 => .inl ⟨_, rfl, hold_ops okT (rs := [.tmp 4]) rfl ?_⟩⟩
  simp only [if_true]
  have hM46 := hM5.trans hM6 (by simp)
  have hM06 := hM04.trans hM46 (by simp)
  have hA6 := hM46.get hA4 (by simp)
  have hrb6 := hrb.mod hM46 (by simp)
  have c6 := fun o => cellOf (o := o) hA6
  clear hM5 hM6 how2 hot2 hM34 c4 hA4 hrb how1 hot1 hM3 hM4 hM03 hA2 c2 hM02 hown hBl hCk hmay
  simp (maxSteps := 1000000) (disch := first | omega | (simp only [sizeAlloc, sizeDrew, sizeSet, sizePut] <;> omega) | fail) only [GS, TT_eq, TTl, Nat.reduceAdd, Nat.reduceMul, Nat.reduceSub, Nat.reduceDiv, Nat.reduceMod, Nat.reducePow, Nat.reduceEqDiff, ↓reduceIte, reduceCtorEq, Int.reduceToNat, Int.reduceAdd, Int.reduceSub, Int.reduceMul, c6]
  refine hold_loop okT (rs := [.tmp 4]) rfl [6, 7] [4, 8, 9, 10, 36, 37, 38, 39, 40, 41, 42, 43, 44, 45, 46, 47, 48, 49, 50, 51, 52, 53, 54, 55, 56, 57, 58, 59, 60, 61, 62, 63, 64, 65, 66, 67, 68, 69, 70, 71, 72, 73, 74, 75, 76, 77, 78, 79, 80, 81, 82, 83, 84, 85, 86, 87, 88, 89, 90, 91, 92, 93, 94, 95, 96, 97, 98, 99, 100, 101, 102, 103, 104, 105, 106, 107, 108, 109, 110, 111, 112, 113, 114, 115, 116, 117, 118, 119] (fun vs w' => ∃ k : Nat, k ≤ mbs.length ∧ vs = [.bool ((mbs.take k).any fun m => decide (m.1 = org)), .int .i64 k] ∧ Mod [] w6 w') (fun vs _ => match vs with | [_, .int _ i] => mbs.length - i.toNat | _ => 0) (by kernel_rfl) ⟨0, by omega, rfl, Mod.refl _ _⟩ ?_
  rintro vs w7 J ⟨k, hk, rfl, hM7⟩
  have hM07 := hM06.trans hM7 (by simp)
  have hA7 := hM7.get hA6 (by simp)
  have c7 := fun o => cellOf (o := o) hA7
  by_cases hlt : k < mbs.length
  · have hlt2 : k < tags.length := by omega
    obtain ⟨v, hv⟩ := hblA vs mbs k hlt hvs
    obtain ⟨b0, o0, e0, ep0, _, g0⟩ := (hrb6.mod hM7 (by simp)).at (by omega) (by omega)
    obtain ⟨b1, o1, e1, ep1, _, g1⟩ := (hmr.mod hM07 (by simp)).at (by omega) (by omega)
    obtain ⟨b2, o2, e2, ep2, _, g2⟩ := (htr.mod hM07 (by simp)).at (by omega) (by omega)
    have hfl := fun j hj => flat_get mbC 2 mbC_len mbs k hlt j hj
    have f2 := g2 k _ (getS hlt2)
    have htk := List.take_succ_eq_append_getElem hlt
    have hNk := fun j (hj : j < mbs.length) h => huq j k hj hlt h
    rw [Value.slice.injEq] at ep0 ep1 ep2
    obtain ⟨rfl, -, -⟩ := ep0
    obtain ⟨rfl, -, -⟩ := ep1
    obtain ⟨rfl, -, -⟩ := ep2
    have d1 : w7.cell? ⟨b1, o1 + k * 2, none⟩ = some (.int .i64 mbs[k].1) := by rw [← g1 (k * 2) _ (hfl 0 (by omega))]
    have d2 : w7.cell? ⟨b1, o1 + k * 2 + 1, none⟩ = some (.string ⟨mbs[k].2.toArray⟩) := by rw [← g1 (k * 2 + 1) _ (hfl 1 (by omega))]; rfl
    have hcell : ∀ j u, (BC v mbs[k].1)[j]? = some u → j < 6 → w7.cell? ⟨b0, o0 + (k * 6 + j), none⟩ = some u := fun j u hj h6 => g0 (k * 6 + j) u (by rw [hv j h6]; exact hj)
    rw [hbc] at hcell
    have a0 : w7.cell? ⟨b0, o0 + k * 6, none⟩ = some (.int .i64 xa) := hcell 0 _ rfl (by omega)
    have a1 : w7.cell? ⟨b0, o0 + k * 6 + 1, none⟩ = some (.int .i64 xb) := hcell 1 _ rfl (by omega)
    have a2 : w7.cell? ⟨b0, o0 + k * 6 + 2, none⟩ = some (.int .i64 xc) := hcell 2 _ rfl (by omega)
    have a3 : w7.cell? ⟨b0, o0 + k * 6 + 3, none⟩ = some (.int .i64 xd) := hcell 3 _ rfl (by omega)
    have a5 : w7.cell? ⟨b0, o0 + k * 6 + 5, none⟩ = some (.int .i64 mbs[k].1) := hcell 5 _ rfl (by omega)
    clear g0 g1 g2 hfl hcell hv
    simp (maxSteps := 1000000) (disch := first | omega | (simp only [sizeAlloc, sizeDrew, sizeSet, sizePut] <;> omega) | fail) only [GS, TT_eq, TTl, Nat.reduceAdd, Nat.reduceMul, Nat.reduceSub, Nat.reduceDiv, Nat.reduceMod, Nat.reducePow, Nat.reduceEqDiff, ↓reduceIte, reduceCtorEq, Int.reduceToNat, Int.reduceAdd, Int.reduceSub, Int.reduceMul]
    refine hold_draw okT (rs := [.tmp 4]) rfl [0, 1, 0, 0, 12, 28, 60, 127, 255, 511, 511, 511, 1023, 6143, 16383] [0, 2, 3, 4, 5, 6, 1, 7, 8, 9, 10, 11, 12, 13, 14] (by kernel_rfl) (by kernel_rfl) ?_
    have hA8 : (w7.drewN 1).heap[n]? = _ := hA7
    have a5' : (w7.drewN 1).cell? ⟨b0, o0 + k * 6 + 5, none⟩ = some (.int .i64 mbs[k].1) := a5
    have hM78 := (Mod.refl [] w7).drewN 1
    generalize w7.drewN 1 = w8 at *
    have c8 := fun o => cellOf (o := o) hA8
    have hM08 := hM07.trans hM78 (by simp)
    simp (maxSteps := 1000000) (disch := first | omega | (simp only [sizeAlloc, sizeDrew, sizeSet, sizePut] <;> omega) | fail) only [GS, TT_eq, TTl, Nat.reduceAdd, Nat.reduceMul, Nat.reduceSub, Nat.reduceDiv, Nat.reduceMod, Nat.reducePow, Nat.reduceEqDiff, ↓reduceIte, reduceCtorEq, Int.reduceToNat, Int.reduceAdd, Int.reduceSub, Int.reduceMul, c8, a5']
    refine ⟨fok14, hOw _ (hinW _ hM08) _ fun sv3 su3 w9 how3 hot3 hM9 => .inl ⟨_, rfl, ?_⟩⟩
    first | refine ⟨(by repeat' (first | exact cellM a5' hM9 | apply And.intro)), hold_dops okT (rs := [.tmp 4]) rfl ?_⟩ | refine hold_dops okT (rs := [.tmp 4]) rfl ?_
    simp (maxSteps := 1000000) (disch := first | omega | (simp only [sizeAlloc, sizeDrew, sizeSet, sizePut] <;> omega) | fail) only [GS, TT_eq, TTl, Nat.reduceAdd, Nat.reduceMul, Nat.reduceSub, Nat.reduceDiv, Nat.reduceMod, Nat.reducePow, Nat.reduceEqDiff, ↓reduceIte, reduceCtorEq, Int.reduceToNat, Int.reduceAdd, Int.reduceSub, Int.reduceMul]
    refine ⟨fok24, hNm sv3 su3 _ _ (hinO _ _ _ (Rd.own how3) (Rd.own hot3)) _ (fun j hj hj2 w10 _ hjo hM10 => .inl ⟨_, rfl, ?_⟩) (fun hno w10 hM10 => by rcases hno with h | h; exact absurd h (by simp); exact absurd rfl (h _ (List.getElem_mem hlt)))⟩
    have hjk : j = k := hNk j hj hjo
    subst hjk
    first | refine hold_dops okT (rs := [.tmp 4]) rfl ?_ | refine ⟨trivial, hold_dops okT (rs := [.tmp 4]) rfl ?_⟩
    have hM710 := (hM78.trans hM9 (by simp)).trans hM10 (by simp)
    have hA10 := hM710.get hA7 (by simp)
    have c10 := fun o => cellOf (o := o) hA10
    have a0 := cellM a0 hM710
    have a1 := cellM a1 hM710
    have a2 := cellM a2 hM710
    have a3 := cellM a3 hM710
    have a5 := cellM a5 hM710
    have d1 := cellM d1 hM710
    have d2 := cellM d2 hM710
    have f2 := cellM f2 hM710
    have hM010 := hM07.trans hM710 (by simp)
    have hM610 := hM7.trans hM710 (by simp)
    simp (maxSteps := 1000000) (disch := first | omega | (simp only [sizeAlloc, sizeDrew, sizeSet, sizePut] <;> omega) | fail) only [GS, TT_eq, TTl, Nat.reduceAdd, Nat.reduceMul, Nat.reduceSub, Nat.reduceDiv, Nat.reduceMod, Nat.reducePow, Nat.reduceEqDiff, ↓reduceIte, reduceCtorEq, Int.reduceToNat, Int.reduceAdd, Int.reduceSub, Int.reduceMul, c10, a0, a1, a2, a3, a5, d1, d2, f2, eq_self]
    refine ⟨by kernel_rfl, fun d => ?_⟩
    have hAE : (w10.drewN d).heap[n]? = _ := hA10
    have cE := fun o => cellOf (o := o) hAE
    have dE : (w10.drewN d).cell? ⟨b1, o1 + j * 2, none⟩ = some (.int .i64 mbs[j].1) := d1
    have hMe := hM610.drewN d
    generalize w10.drewN d = wE at *
    have hsn : (mbs.take (j + 1)).any (fun m => decide (m.1 = org)) = ((mbs.take j).any (fun m => decide (m.1 = org)) || decide (mbs[j].1 = org)) := by rw [htk, List.any_append]; simp
    cases hany : (mbs.take j).any fun m => decide (m.1 = org)
    · by_cases ho : mbs[j].1 = org
      · rw [hany, decide_eq_true ho, Bool.false_or] at hsn
        simp (maxSteps := 1000000) (disch := first | omega | (simp only [sizeAlloc, sizeDrew, sizeSet, sizePut] <;> omega) | fail) only [GS, TT_eq, TTl, Nat.reduceAdd, Nat.reduceMul, Nat.reduceSub, Nat.reduceDiv, Nat.reduceMod, Nat.reducePow, Nat.reduceEqDiff, ↓reduceIte, reduceCtorEq, Int.reduceToNat, Int.reduceAdd, Int.reduceSub, Int.reduceMul, cE, dE, ho, eq_self]
        exact ⟨⟨j + 1, by omega, by rw [hsn]; rfl, hMe⟩, by omega⟩
      · rw [hany, decide_eq_false ho, Bool.false_or] at hsn
        simp (maxSteps := 1000000) (disch := first | omega | (simp only [sizeAlloc, sizeDrew, sizeSet, sizePut] <;> omega) | fail) only [GS, TT_eq, TTl, Nat.reduceAdd, Nat.reduceMul, Nat.reduceSub, Nat.reduceDiv, Nat.reduceMod, Nat.reducePow, Nat.reduceEqDiff, ↓reduceIte, reduceCtorEq, Int.reduceToNat, Int.reduceAdd, Int.reduceSub, Int.reduceMul, cE, dE, ho]
        exact ⟨⟨j + 1, by omega, by rw [hsn]; rfl, hMe⟩, by omega⟩
    · rw [hany, Bool.true_or] at hsn
      simp (maxSteps := 1000000) (disch := first | omega | (simp only [sizeAlloc, sizeDrew, sizeSet, sizePut] <;> omega) | fail) only [GS, TT_eq, TTl, Nat.reduceAdd, Nat.reduceMul, Nat.reduceSub, Nat.reduceDiv, Nat.reduceMod, Nat.reducePow, Nat.reduceEqDiff, ↓reduceIte, reduceCtorEq, Int.reduceToNat, Int.reduceAdd, Int.reduceSub, Int.reduceMul, cE, dE]
      exact ⟨⟨j + 1, by omega, by rw [hsn]; rfl, hMe⟩, by omega⟩
  · have e : k = mbs.length := by omega
    subst e
    rw [List.take_length]
    simp (maxSteps := 1000000) (disch := first | omega | (simp only [sizeAlloc, sizeDrew, sizeSet, sizePut] <;> omega) | fail) only [GS, TT_eq, TTl, Nat.reduceAdd, Nat.reduceMul, Nat.reduceSub, Nat.reduceDiv, Nat.reduceMod, Nat.reducePow, Nat.reduceEqDiff, ↓reduceIte, reduceCtorEq, Int.reduceToNat, Int.reduceAdd, Int.reduceSub, Int.reduceMul, c7]
    refine ⟨fok14, hOw _ (hinW _ hM07) _ fun sv3 su3 w9 how3 hot3 hM9 => .inl ⟨_, rfl, hold_ops okT (rs := [.tmp 4]) rfl ?_⟩⟩
    simp (maxSteps := 1000000) (disch := first | omega | (simp only [sizeAlloc, sizeDrew, sizeSet, sizePut] <;> omega) | fail) only [GS, TT_eq, TTl, Nat.reduceAdd, Nat.reduceMul, Nat.reduceSub, Nat.reduceDiv, Nat.reduceMod, Nat.reducePow, Nat.reduceEqDiff, ↓reduceIte, reduceCtorEq, Int.reduceToNat, Int.reduceAdd, Int.reduceSub, Int.reduceMul]
    refine ⟨fok24, hNm sv3 su3 _ _ (hinO _ _ _ (Rd.own how3) (Rd.own hot3)) _ (fun j hj hj2 w10 _ hjo hM10 => .inl ⟨_, rfl, hold_ops okT (rs := [.tmp 4]) rfl ?_⟩) (fun hno w10 hM10 => .inl ⟨_, rfl, hold_ops okT (rs := [.tmp 4]) rfl ?_⟩)⟩
    · have hany : (mbs.any fun m => decide (m.1 = org)) = true := List.any_eq_true.2 ⟨mbs[j], List.getElem_mem hj, decide_eq_true hjo⟩
      rw [hany]
      simp (maxSteps := 1000000) (disch := first | omega | (simp only [sizeAlloc, sizeDrew, sizeSet, sizePut] <;> omega) | fail) only [GS, TT_eq, TTl, Nat.reduceAdd, Nat.reduceMul, Nat.reduceSub, Nat.reduceDiv, Nat.reduceMod, Nat.reducePow, Nat.reduceEqDiff, ↓reduceIte, reduceCtorEq, Int.reduceToNat, Int.reduceAdd, Int.reduceSub, Int.reduceMul]
      refine ⟨fok8, alive26_cps _ _ fun w30 hM30 => .inl ⟨_, rfl, hold_ops okT (rs := [.tmp 4]) rfl ?_⟩⟩
      simp (maxSteps := 1000000) (disch := first | omega | (simp only [sizeAlloc, sizeDrew, sizeSet, sizePut] <;> omega) | fail) only [GS, TT_eq, TTl, Nat.reduceAdd, Nat.reduceMul, Nat.reduceSub, Nat.reduceDiv, Nat.reduceMod, Nat.reducePow, Nat.reduceEqDiff, ↓reduceIte, reduceCtorEq, Int.reduceToNat, Int.reduceAdd, Int.reduceSub, Int.reduceMul]
      exact hR _ (((hM07.trans hM9 (by simp)).trans hM10 (by simp)).trans hM30 (by simp))
    · have hany : (mbs.any fun m => decide (m.1 = org)) = false := by
        cases h : mbs.any fun m => decide (m.1 = org)
        · rfl
        · obtain ⟨m, hm, hd⟩ := List.any_eq_true.1 h
          rcases hno with h | h
          · simp at h
          · exact absurd (of_decide_eq_true hd) (h m hm)
      rw [hany]
      simp (maxSteps := 1000000) (disch := first | omega | (simp only [sizeAlloc, sizeDrew, sizeSet, sizePut] <;> omega) | fail) only [GS, TT_eq, TTl, Nat.reduceAdd, Nat.reduceMul, Nat.reduceSub, Nat.reduceDiv, Nat.reduceMod, Nat.reducePow, Nat.reduceEqDiff, ↓reduceIte, reduceCtorEq, Int.reduceToNat, Int.reduceAdd, Int.reduceSub, Int.reduceMul]
      refine ⟨fok8, alive26_cps _ _ fun w30 hM30 => .inl ⟨_, rfl, hold_ops okT (rs := [.tmp 4]) rfl ?_⟩⟩
      simp (maxSteps := 1000000) (disch := first | omega | (simp only [sizeAlloc, sizeDrew, sizeSet, sizePut] <;> omega) | fail) only [GS, TT_eq, TTl, Nat.reduceAdd, Nat.reduceMul, Nat.reduceSub, Nat.reduceDiv, Nat.reduceMod, Nat.reducePow, Nat.reduceEqDiff, ↓reduceIte, reduceCtorEq, Int.reduceToNat, Int.reduceAdd, Int.reduceSub, Int.reduceMul]
      exact hR _ (((hM07.trans hM9 (by simp)).trans hM10 (by simp)).trans hM30 (by simp))
end Go.Proofs.Ytpcilobbohokcaa
