/-
  ReceiptTells (walk).
-/
import Derived.Test.YtpcilobbohokcaaGreatRtlRcq6
import Derived.Test.YtpcilobbohokcaaGreatRtlRcq4
set_option linter.unusedSimpArgs false
set_option linter.unusedVariables false
set_option maxRecDepth 20000
namespace Go.Proofs.YtpcilobbohokcaaGreat
open Go Go.Wk Go.RowKit
attribute [local irreducible] go Hold
open Go.Lib
/-- What a receipt says of an organisation, by the code and by the document. -/
theorem nm_both (r : Rcp) (org : Int) : ∃ (d t : List UInt8) (b : Bool),
    (∀ sm st w, RcpIn w r sm st → ∀ R : Ending → World → Prop, (∀ w', Mod [] w w' → R (.returned (.tuple #[.string ⟨d.toArray⟩, .string ⟨t.toArray⟩, .bool b])) w') → Calls Tryz.prog 31 #[rcV r sm st, .int .i64 org] w R) ∧
    (∀ sm st w, RcpIn w r sm st → ∀ R : Ending → World → Prop, (∀ w', Mod [] w w' → R (.returned (.tuple #[.string ⟨d.toArray⟩, .string ⟨t.toArray⟩, .bool b])) w') → Calls Tryz.prog 32 #[rcV r sm st, .int .i64 org] w R) := by
  by_cases h : mayR r = true ∧ ∃ k, ∃ hk : k < r.mbs.length, r.mbs[k].1 = org
  · obtain ⟨hm, k, hk, ho⟩ := h
    obtain ⟨-, -, hmB, hlen, -⟩ := may_is hm
    unfold mbB at hmB
    rw [Bool.and_eq_true] at hmB
    have huq := fun j (hj : j < r.mbs.length) (h : r.mbs[j].1 = org) => mbs_uniq hmB.1 j k hj hk (by rw [h, ho])
    have hno : ¬ (mayR r = false ∨ ∀ m ∈ r.mbs, m.1 ≠ org) := fun h => by
      rcases h with h | h
      · rw [hm] at h; simp at h
      · exact h _ (List.getElem_mem hk) ho
    refine ⟨r.mbs[k].2, r.tags[k]'(by omega), true, fun sm st w hr R hR => ?_, fun sm st w hr R hR => ?_⟩
    · refine eNames_cps r sm st org w hr R (fun j hj hj2 w' _ hjo hM => ?_) (fun h => absurd h hno)
      have e := huq j hj hjo
      subst e
      exact hR w' hM
    · refine rNames26_cps r sm st org w hr R (fun j hj hj2 w' _ hjo hM => ?_) (fun h => absurd h hno)
      have e := huq j hj hjo
      subst e
      exact hR w' hM
  · refine ⟨[], [], false, fun sm st w hr R hR => ?_, fun sm st w hr R hR => ?_⟩
    · exact eNames_cps r sm st org w hr R (fun j hj hj2 w' hm hjo hM => absurd ⟨hm, j, hj, hjo⟩ h) (fun _ w' hM => hR w' hM)
    · exact rNames26_cps r sm st org w hr R (fun j hj hj2 w' hm hjo hM => absurd ⟨hm, j, hj, hjo⟩ h) (fun _ w' hM => hR w' hM)
theorem beq2_self (b : Bool) : beq2 b b = true := by cases b <;> rfl
def balM (r : Rcp) : List Mb := if mayR r = true then r.mbs else []
theorem eBallots3_cps (r : Rcp) (sm st : Value) (w : World) (hr : RcpIn w r sm st) (R : Ending → World → Prop)
    (hR : ∀ sv vs w', vs.length = (balM r).length → (∀ v ∈ vs, w'.ownsRow w.heap.size 126 2 v r.mbs.length (r.mbs.flatMap mbC)) → w'.ownsRow w.heap.size 56 6 sv (balM r).length (blL r vs (balM r)) → Mod [] w w' → R (.returned sv) w') :
    Calls Tryz.prog 34 #[rcV r sm st] w R := by
  unfold balM at hR
  refine eBallots2_cps r sm st w hr R (fun sv vs w' hm h1 h2 h3 h4 => ?_) (fun hm w' h4 => ?_)
  · rw [if_pos hm] at hR
    exact hR sv vs w' h1 h2 h3 h4
  · rw [if_neg (by rw [hm]; simp)] at hR
    exact hR _ [] w' rfl (by simp) (World.ownsRow_nil _ _ _ _) h4
theorem rBallots3_cps (r : Rcp) (sm st : Value) (w : World) (hr : RcpIn w r sm st) (R : Ending → World → Prop)
    (hR : ∀ sv w', w'.ownsRow w.heap.size 56 6 sv (balM r).length (blL r (List.replicate (balM r).length sm) (balM r)) → Mod [] w w' → R (.returned sv) w') :
    Calls Tryz.prog 35 #[rcV r sm st] w R := by
  unfold balM at hR
  refine rBallots26_cps r sm st w hr R (fun sv w' hm h3 h4 => ?_) (fun hm w' h4 => ?_)
  · rw [if_pos hm] at hR
    exact hR sv w' h3 h4
  · rw [if_neg (by rw [hm]; simp)] at hR
    exact hR _ w' (World.ownsRow_nil _ _ _ _) h4
theorem agg6 {w w' : World} {n : Nat} {x0 x1 x2 x3 x4 x5 : Value} (h : w.heap[n]? = some (.cells #[x0, x1, x2, x3, x4, x5] 28 (0, 0))) (hm : Mod [] w w') : aggO (consO (w'.cell? ⟨n, 0, none⟩) (consO (w'.cell? ⟨n, 1, none⟩) (consO (w'.cell? ⟨n, 2, none⟩) (consO (w'.cell? ⟨n, 3, none⟩) (consO (w'.cell? ⟨n, 4, none⟩) (consO (w'.cell? ⟨n, 5, none⟩) (some []))))))) = some (.agg #[x0, x1, x2, x3, x4, x5]) := by
  have c := fun o => cellOf (o := o) (hm.get h (by simp))
  rw [c 0, c 1, c 2, c 3, c 4, c 5]
  rfl
set_option maxRecDepth 20000 in
set_option maxHeartbeats 64000000 in
theorem tells26_cps (r : Rcp) (sm st : Value) (org : Int) (w : World) (ha : RcpArg w r sm st) (R : Ending → World → Prop) (hR : ∀ w', Mod [] w w' → R (.returned (.bool true)) w') :
    Calls Tryz.prog 6 #[rcV r sm st, .int .i64 org] w R := by
  have hLg := fun w h => Long26_cps r sm st w h
  have hOw := fun w h => own26_cps r sm st w h
  have hBl := fun a b w h => eBallots3_cps r a b w h
  have hBr := fun a b w h => rBallots3_cps r a b w h
  have hCk := fun a b w h => eCheck_cps r a b w h
  have hMy := fun a b w h => rMay26_cps r a b w h
  have hEn := fun a b w h => eEncode_cps r a b w h
  have hEr := fun a b w h => rEncode26_cps r a b w h
  have hSm := fun sm st sn su w R h1 h2 => Same26_cps r r sm st sn su w R h1 h2
  have hS3 := fun v1 v2 o w => rSame13_cps r v1 v2 o r.mbs w
  obtain ⟨nd, nt, nb, hNm, hNr⟩ := nm_both r org
  have hin0 := fun h => ha.in h
  have hA3 := fun w' (h : Mod [] w w') => (⟨ha.t1, ha.t2, ha.t3, ha.aud, ⟨ha.mbs.rd.mod h (by simp), ha.mbs.len, ha.mbs.dig, ha.mbs.org⟩, ha.trd.mod h (by simp), ha.tlen, ha.tdig⟩ : RcpArg w' r sm st)
  clear ha
  have hblA := blL_in r
  have hbc : ∀ v o, blC r v o = [.int .i64 r.tx.1, .int .i64 r.tx.2.1, .int .i64 r.tx.2.2, .int .i64 r.aud, v, .int .i64 o] := fun _ _ => rfl
  have hback := @rc_back r
  have hbm : balM r = if mayR r = true then r.mbs else [] := rfl
  have hlgm : longR r = false → r.mbs.length ≤ 1000000 ∧ r.tags.length ≤ 1000000 := fun h => ⟨(hin0 h).mlen, (hin0 h).tlen⟩
  rw [decide_eq_true (show SameQ r r from ⟨rfl, rfl, rfl, rfl⟩)] at hSm
  generalize encR r = E at *
  generalize balM r = BM at *
  generalize blL r = BL at *
  generalize blC r = BC at *
  obtain ⟨⟨xa, xb, xc⟩, xd, mbs, tags⟩ := r
  generalize mayR ⟨(xa, xb, xc), xd, mbs, tags⟩ = M at *
  obtain ⟨ea, ee⟩ := E
  unfold rcV rcC at *
  unfold stV at hEn hEr
  simp only at hLg hOw hBl hBr hCk hMy hEn hEr hSm hS3 hNm hNr hbc hlgm hbm ⊢
  have osm : sm.oneCell' = true := by obtain ⟨a, c, e⟩ := (hA3 w (Mod.refl _ _)).mbs.rd.slice; rw [e]; rfl
  have ost : st.oneCell' = true := by obtain ⟨a, c, e⟩ := (hA3 w (Mod.refl _ _)).trd.slice; rw [e]; rfl
  refine calls_go 4000 okT Tryz.func6 rfl (rs := [.tmp 4]) rfl Tryz.ntmps6 (args := [.agg #[.int .i64 xa, .int .i64 xb, .int .i64 xc, .int .i64 xd, sm, st], .int .i64 org]) ?_
  simp (maxSteps := 1000000) (disch := first | omega | (simp only [sizeAlloc, sizeDrew, sizeSet, sizePut] <;> omega) | fail) only [GS, TT_eq, TTl, Nat.reduceAdd, Nat.reduceMul, Nat.reduceSub, Nat.reduceDiv, Nat.reduceMod, Nat.reducePow, Nat.reduceEqDiff, ↓reduceIte, reduceCtorEq, Int.reduceToNat, Int.reduceAdd, Int.reduceSub, Int.reduceMul, osm, ost, cellsL_one osm, cellsL_one ost]
  generalize hW : w.alloc (.cells #[.int .i64 xa, .int .i64 xb, .int .i64 xc, .int .i64 xd, sm, st] 28) = w1
  obtain ⟨hA, hM0⟩ := box6' hW
  clear hW
  generalize hn : w.heap.size = n at *
  refine ⟨fok26, hLg _ (hA3 _ hM0) _ fun w2 hM2 => .inl ⟨_, rfl, hold_ops okT (rs := [.tmp 4]) rfl ?_⟩⟩
  have hM02 := hM0.trans hM2 (by simp)
  have hA2 := hM2.get hA (by simp)
  cases hl : longR ⟨(xa, xb, xc), xd, mbs, tags⟩
  rotate_left
  · simp (maxSteps := 1000000) (disch := first | omega | (simp only [sizeAlloc, sizeDrew, sizeSet, sizePut] <;> omega) | fail) only [GS, TT_eq, TTl, Nat.reduceAdd, Nat.reduceMul, Nat.reduceSub, Nat.reduceDiv, Nat.reduceMod, Nat.reducePow, Nat.reduceEqDiff, ↓reduceIte, reduceCtorEq, Int.reduceToNat, Int.reduceAdd, Int.reduceSub, Int.reduceMul]
    refine ⟨fok10, alive26_cps _ _ fun w30 hM30 => .inl ⟨_, rfl, hold_ops okT (rs := [.tmp 4]) rfl ?_⟩⟩
    simp (maxSteps := 1000000) (disch := first | omega | (simp only [sizeAlloc, sizeDrew, sizeSet, sizePut] <;> omega) | fail) only [GS, TT_eq, TTl, Nat.reduceAdd, Nat.reduceMul, Nat.reduceSub, Nat.reduceDiv, Nat.reduceMod, Nat.reducePow, Nat.reduceEqDiff, ↓reduceIte, reduceCtorEq, Int.reduceToNat, Int.reduceAdd, Int.reduceSub, Int.reduceMul]
    exact hR _ (hM02.trans hM30 (by simp))
  have hin := hin0 hl
  obtain ⟨hml, htl⟩ := hlgm hl
  have hmr := hin.mrd
  have htr := hin.trd
  simp only at hmr htr
  have hinW : ∀ w', Mod [] w w' → RcpIn w' ⟨(xa, xb, xc), xd, mbs, tags⟩ sm st := fun w' h => hin.mod h
  have hinO : ∀ (w' : World) (sv su : Value), Rd w' 2 sv mbs.length (mbs.flatMap mbC) → Rd w' 1 su tags.length (tags.map strV) → RcpIn w' ⟨(xa, xb, xc), xd, mbs, tags⟩ sv su := fun w' sv su h1 h2 => ⟨hin.aud, hin.mlen, hin.mdig, h1, hin.tlen, hin.tdig, h2⟩
  clear hin hin0 hA3 hLg hl hM0 hA hM2 hlgm
  have c2 := fun o => cellOf (o := o) hA2
  simp (maxSteps := 1000000) (disch := first | omega | (simp only [sizeAlloc, sizeDrew, sizeSet, sizePut] <;> omega) | fail) only [GS, TT_eq, TTl, Nat.reduceAdd, Nat.reduceMul, Nat.reduceSub, Nat.reduceDiv, Nat.reduceMod, Nat.reducePow, Nat.reduceEqDiff, ↓reduceIte, reduceCtorEq, Int.reduceToNat, Int.reduceAdd, Int.reduceSub, Int.reduceMul, c2]
  refine ⟨fok27, hOw _ (hinW _ hM02) _ fun sv1 su1 w3 how1 hot1 hM3 => .inl ⟨_, rfl, hold_stop (s' := some 4) (hold_ops okT (rs := [.tmp 4]) rfl ?_)⟩⟩
  have hM03 := hM02.trans hM3 (by simp)
  have hA3 := hM3.get hA2 (by simp)
  have osv := ownsRow_one how1
  have osu := ownsRow_one hot1
  simp (maxSteps := 1000000) (disch := first | omega | (simp only [sizeAlloc, sizeDrew, sizeSet, sizePut] <;> omega) | fail) only [GS, TT_eq, TTl, Nat.reduceAdd, Nat.reduceMul, Nat.reduceSub, Nat.reduceDiv, Nat.reduceMod, Nat.reducePow, Nat.reduceEqDiff, ↓reduceIte, reduceCtorEq, Int.reduceToNat, Int.reduceAdd, Int.reduceSub, Int.reduceMul, osv, osu, cellsL_one osv, cellsL_one osu]
  generalize hW : (((((((w3.alloc (.cells #[.int .i64 0, .int .i64 0, .int .i64 0, .int .i64 0, .slice none 0 0, .slice none 0 0] 28)).setCell ⟨w3.heap.size, 0, none⟩ (.int .i64 xa)).setCell ⟨w3.heap.size, 1, none⟩ (.int .i64 xb)).setCell ⟨w3.heap.size, 2, none⟩ (.int .i64 xc)).setCell ⟨w3.heap.size, 3, none⟩ (.int .i64 xd)).setCell ⟨w3.heap.size, 4, none⟩ (sv1)).setCell ⟨w3.heap.size, 5, none⟩ (su1)) = w4
  obtain ⟨hB, hM34⟩ := box6 hW
  clear hW
  have hA4 := hM34.get hA3 (by simp)
  have hM04 := hM03.trans hM34 (by simp)
  have how4 := Rd.own (ownsRow_mod how1 hM34 (by simp))
  have hot4 := Rd.own (ownsRow_mod hot1 hM34 (by simp))
  generalize w3.heap.size = q at *
  clear how1 hot1 hA2 hA3 c2 hM3 hM34 hM02 hM03
  refine hold_stop (s' := none) ?_
  refine hold_code okT (rs := [.tmp 4]) rfl ?_
  have dB := fun o => cellOf (o := o) hB
  simp (maxSteps := 1000000) (disch := first | omega | (simp only [sizeAlloc, sizeDrew, sizeSet, sizePut] <;> omega) | fail) only [GS, TT_eq, TTl, Nat.reduceAdd, Nat.reduceMul, Nat.reduceSub, Nat.reduceDiv, Nat.reduceMod, Nat.reducePow, Nat.reduceEqDiff, ↓reduceIte, reduceCtorEq, Int.reduceToNat, Int.reduceAdd, Int.reduceSub, Int.reduceMul, dB]
  refine ⟨fok28, hEn sv1 su1 _ (hinO _ _ _ how4 hot4) _ fun w5 hM5 => .inl ⟨_, rfl, hold_ops okT (rs := [.tmp 4]) rfl ?_⟩⟩
  have cA := fun o => cellOf (o := o) (hM5.get hA4 (by simp))
  simp (maxSteps := 1000000) (disch := first | omega | (simp only [sizeAlloc, sizeDrew, sizeSet, sizePut] <;> omega) | fail) only [GS, TT_eq, TTl, Nat.reduceAdd, Nat.reduceMul, Nat.reduceSub, Nat.reduceDiv, Nat.reduceMod, Nat.reducePow, Nat.reduceEqDiff, ↓reduceIte, reduceCtorEq, Int.reduceToNat, Int.reduceAdd, Int.reduceSub, Int.reduceMul, cA]
  refine ⟨fok29, hEr sm st _ (hinW _ (hM04.trans hM5 (by simp))) _ fun w6 hM6 => .inl ⟨_, rfl, hold_ops okT (rs := [.tmp 4]) rfl ?_⟩⟩
  have hM46 := hM5.trans hM6 (by simp)
  have dB := fun o => cellOf (o := o) (hM46.get hB (by simp))
  simp (maxSteps := 1000000) (disch := first | omega | (simp only [sizeAlloc, sizeDrew, sizeSet, sizePut] <;> omega) | fail) only [GS, TT_eq, TTl, Nat.reduceAdd, Nat.reduceMul, Nat.reduceSub, Nat.reduceDiv, Nat.reduceMod, Nat.reducePow, Nat.reduceEqDiff, ↓reduceIte, reduceCtorEq, Int.reduceToNat, Int.reduceAdd, Int.reduceSub, Int.reduceMul, dB]
  refine ⟨fok30, hCk sv1 su1 _ (hinO _ _ _ (how4.mod hM46 (by simp)) (hot4.mod hM46 (by simp))) _ fun w7 hM7 => .inl ⟨_, rfl, hold_ops okT (rs := [.tmp 4]) rfl ?_⟩⟩
  have hM47 := hM46.trans hM7 (by simp)
  have dB := fun o => cellOf (o := o) (hM47.get hB (by simp))
  simp (maxSteps := 1000000) (disch := first | omega | (simp only [sizeAlloc, sizeDrew, sizeSet, sizePut] <;> omega) | fail) only [GS, TT_eq, TTl, Nat.reduceAdd, Nat.reduceMul, Nat.reduceSub, Nat.reduceDiv, Nat.reduceMod, Nat.reducePow, Nat.reduceEqDiff, ↓reduceIte, reduceCtorEq, Int.reduceToNat, Int.reduceAdd, Int.reduceSub, Int.reduceMul, dB]
  refine ⟨fok31, hNm sv1 su1 _ (hinO _ _ _ (how4.mod hM47 (by simp)) (hot4.mod hM47 (by simp))) _ fun w8 hM8 => .inl ⟨_, rfl, hold_ops okT (rs := [.tmp 4]) rfl ?_⟩⟩
  have hM48 := hM47.trans hM8 (by simp)
  have cA := fun o => cellOf (o := o) (hM48.get hA4 (by simp))
  simp (maxSteps := 1000000) (disch := first | omega | (simp only [sizeAlloc, sizeDrew, sizeSet, sizePut] <;> omega) | fail) only [GS, TT_eq, TTl, Nat.reduceAdd, Nat.reduceMul, Nat.reduceSub, Nat.reduceDiv, Nat.reduceMod, Nat.reducePow, Nat.reduceEqDiff, ↓reduceIte, reduceCtorEq, Int.reduceToNat, Int.reduceAdd, Int.reduceSub, Int.reduceMul, cA]
  refine ⟨fok32, hNr sm st _ (hinW _ (hM04.trans hM48 (by simp))) _ fun w9 hM9 => .inl ⟨_, rfl, hold_ops okT (rs := [.tmp 4]) rfl ?_⟩⟩
  have hM49 := hM48.trans hM9 (by simp)
  have hA9 := hM49.get hA4 (by simp)
  have hB9 := hM49.get hB (by simp)
  have how9 := how4.mod hM49 (by simp)
  have hot9 := hot4.mod hM49 (by simp)
  have hM09 := hM04.trans hM49 (by simp)
  have cA := fun o => cellOf (o := o) hA9
  clear hM04 hM5 hM6 hM7 hM8 hM9 hM46 hM47 hM48 hM49 hA4 hB how4 hot4 dB hNm hNr hEn hEr hCk
  have hmb : BM.length ≤ mbs.length ∧ ∀ k (h : k < BM.length), BM[k]? = mbs[k]? := by
    rw [hbm]
    split
    · exact ⟨Nat.le_refl _, fun _ _ => rfl⟩
    · exact ⟨by simp, fun _ h => by simp at h⟩
  clear hbm
  cases M
  all_goals
    first | simp only [if_true] | simp only [Bool.false_eq_true, if_false]
    simp (maxSteps := 1000000) (disch := first | omega | (simp only [sizeAlloc, sizeDrew, sizeSet, sizePut] <;> omega) | fail) only [GS, TT_eq, TTl, Nat.reduceAdd, Nat.reduceMul, Nat.reduceSub, Nat.reduceDiv, Nat.reduceMod, Nat.reducePow, Nat.reduceEqDiff, ↓reduceIte, reduceCtorEq, Int.reduceToNat, Int.reduceAdd, Int.reduceSub, Int.reduceMul, cA, eq_self, beq2_self]
    refine ⟨fok33, hMy sm st _ (hinW _ hM09) _ fun w10 hM10 => .inl ⟨_, rfl, hold_ops okT (rs := [.tmp 4]) rfl ?_⟩⟩
    have hA10 := hM10.get hA9 (by simp)
    have hB10 := hM10.get hB9 (by simp)
    have how10 := how9.mod hM10 (by simp)
    have hot10 := hot9.mod hM10 (by simp)
    have hM010 := hM09.trans hM10 (by simp)
    simp (maxSteps := 1000000) (disch := first | omega | (simp only [sizeAlloc, sizeDrew, sizeSet, sizePut] <;> omega) | fail) only [GS, TT_eq, TTl, Nat.reduceAdd, Nat.reduceMul, Nat.reduceSub, Nat.reduceDiv, Nat.reduceMod, Nat.reducePow, Nat.reduceEqDiff, ↓reduceIte, reduceCtorEq, Int.reduceToNat, Int.reduceAdd, Int.reduceSub, Int.reduceMul, eq_self, beq2_self]
    refine hold_draw okT (rs := [.tmp 4]) rfl [0, 1, 0, 7, 15, 31] [0, 2, 1, 3, 4, 5] (by kernel_rfl) (by kernel_rfl) ?_
    have hM1011 := (Mod.refl [] w10).drewN 1
    generalize w10.drewN 1 = w11 at *
    have hA11 := hM1011.get hA10 (by simp)
    have hB11 := hM1011.get hB10 (by simp)
    have how11 := how10.mod hM1011 (by simp)
    have hot11 := hot10.mod hM1011 (by simp)
    have hM011 := hM010.trans hM1011 (by simp)
    clear hA9 hB9 how9 hot9 hM09 hA10 hB10 how10 hot10 hM010 hM10 cA
    have cA := fun o => cellOf (o := o) hA11
    have cB := fun o => cellOf (o := o) hB11
    simp (maxSteps := 1000000) (disch := first | omega | (simp only [sizeAlloc, sizeDrew, sizeSet, sizePut] <;> omega) | fail) only [GS, TT_eq, TTl, Nat.reduceAdd, Nat.reduceMul, Nat.reduceSub, Nat.reduceDiv, Nat.reduceMod, Nat.reducePow, Nat.reduceEqDiff, ↓reduceIte, reduceCtorEq, Int.reduceToNat, Int.reduceAdd, Int.reduceSub, Int.reduceMul, cA, cB]
    refine ⟨fok34, hBl sv1 su1 _ (hinO _ _ _ how11 hot11) _ fun bv vs w12 hvl hvo hbo hM12 => .inl ⟨_, rfl, ?_⟩⟩
    first | refine hold_dops okT (rs := [.tmp 4]) rfl ?_ | refine ⟨(by repeat' (first | exact agg6 hA11 hM12 | exact agg6 hB11 hM12 | apply And.intro)), hold_dops okT (rs := [.tmp 4]) rfl ?_⟩
    have hA12 := hM12.get hA11 (by simp)
    have hB12 := hM12.get hB11 (by simp)
    have cA := fun o => cellOf (o := o) hA12
    have hM012 := hM011.trans hM12 (by simp)
    have obv := ownsRow_one hbo
    simp (maxSteps := 1000000) (disch := first | omega | (simp only [sizeAlloc, sizeDrew, sizeSet, sizePut] <;> omega) | fail) only [GS, TT_eq, TTl, Nat.reduceAdd, Nat.reduceMul, Nat.reduceSub, Nat.reduceDiv, Nat.reduceMod, Nat.reducePow, Nat.reduceEqDiff, ↓reduceIte, reduceCtorEq, Int.reduceToNat, Int.reduceAdd, Int.reduceSub, Int.reduceMul, cA, obv, cellsL_one obv]
    refine ⟨fok35, hBr sm st _ (hinW _ hM012) _ fun cv w13 hco hM13 => .inl ⟨_, rfl, ?_⟩⟩
    first | refine hold_dops okT (rs := [.tmp 4]) rfl ?_ | refine ⟨(by repeat' (first | exact agg6 hA12 hM13 | exact agg6 hB12 hM13 | apply And.intro)), hold_dops okT (rs := [.tmp 4]) rfl ?_⟩
    have hA13 := hM13.get hA12 (by simp)
    have hB13 := hM13.get hB12 (by simp)
    have hM113 := hM12.trans hM13 (by simp)
    have hM013 := hM011.trans hM113 (by simp)
    have how13 := how11.mod hM113 (by simp)
    have hot13 := hot11.mod hM113 (by simp)
    have hvo13 := fun v hv => Rd.own (ownsRow_mod (hvo v hv) hM13 (by simp))
    have hbo13 := Rd.own (ownsRow_mod hbo hM13 (by simp))
    have hco13 := Rd.own hco
    have ocv := ownsRow_one hco
    obtain ⟨b1, c1, rfl⟩ := hbo13.slice
    obtain ⟨b2, c2, rfl⟩ := hco13.slice
    clear hA11 hB11 how11 hot11 hM011 hM1011 hA12 hB12 hM12 hM13 hM113 hM012 hbo hco hvo cA cB hBl hBr
    have cA := fun o => cellOf (o := o) hA13
    have cB := fun o => cellOf (o := o) hB13
    simp (maxSteps := 1000000) (disch := first | omega | (simp only [sizeAlloc, sizeDrew, sizeSet, sizePut] <;> omega) | fail) only [GS, TT_eq, TTl, Nat.reduceAdd, Nat.reduceMul, Nat.reduceSub, Nat.reduceDiv, Nat.reduceMod, Nat.reducePow, Nat.reduceEqDiff, ↓reduceIte, reduceCtorEq, Int.reduceToNat, Int.reduceAdd, Int.reduceSub, Int.reduceMul, cA, cB, ocv, cellsL_one ocv, eq_self]
    refine ⟨fok13, hSm _ _ _ _ _ _ hml htl how13 (hmr.mod hM013 (by simp)) hot13 (htr.mod hM013 (by simp)) fun w14 hM14 => .inl ⟨_, rfl, hold_ops okT (rs := [.tmp 4]) rfl ?_⟩⟩
    have hM014 := hM013.trans hM14 (by simp)
    have hA14 := hM14.get hA13 (by simp)
    have hvo14 := fun v hv => (hvo13 v hv).mod hM14 (by simp)
    have hbo14 := hbo13.mod hM14 (by simp)
    have hco14 := hco13.mod hM14 (by simp)
    clear hM013 hA13 hB13 hvo13 hbo13 hco13 how13 hot13 cA cB hM14
    simp (maxSteps := 1000000) (disch := first | omega | (simp only [sizeAlloc, sizeDrew, sizeSet, sizePut] <;> omega) | fail) only [GS, TT_eq, TTl, Nat.reduceAdd, Nat.reduceMul, Nat.reduceSub, Nat.reduceDiv, Nat.reduceMod, Nat.reducePow, Nat.reduceEqDiff, ↓reduceIte, reduceCtorEq, Int.reduceToNat, Int.reduceAdd, Int.reduceSub, Int.reduceMul]
    refine hold_loop okT (rs := [.tmp 4]) rfl [19] [4, 106, 107, 108, 109, 110, 111, 112, 113, 114, 115, 116, 117, 118, 119, 120, 121] (fun vs w' => ∃ k : Nat, k ≤ BM.length ∧ vs = [.int .i64 k] ∧ Mod [] w14 w') (fun vs _ => match vs with | [.int _ i] => BM.length - i.toNat | _ => 0) (by kernel_rfl) ⟨0, by omega, rfl, Mod.refl _ _⟩ ?_
    rintro us w15 J ⟨k, hk, rfl, hM15⟩
    have hM015 := hM014.trans hM15 (by simp)
    have hA15 := hM15.get hA14 (by simp)
    by_cases hlt : k < BM.length
    · obtain ⟨v, hvm, hv⟩ := hblA vs BM k hlt hvl
      obtain ⟨v2, hvm2, hv2⟩ := hblA (List.replicate BM.length sm) BM k hlt (by rw [List.length_replicate])
      have ev2 : v2 = sm := (List.mem_replicate.1 hvm2).2
      subst ev2
      have hvr := (hvo14 v hvm).mod hM15 (by simp)
      have hv1 : v.oneCell' = true := by obtain ⟨a, c, e⟩ := hvr.slice; rw [e]; rfl
      obtain ⟨p1, o1, e1, ep1, _, g1⟩ := (hbo14.mod hM15 (by simp)).at (by omega) (by omega)
      obtain ⟨p2, o2, e2, ep2, _, g2⟩ := (hco14.mod hM15 (by simp)).at (by omega) (by omega)
      rw [Value.slice.injEq] at ep1 ep2
      obtain ⟨rfl, -, -⟩ := ep1
      obtain ⟨rfl, -, -⟩ := ep2
      have hc1 : ∀ j u, (BC v BM[k].1)[j]? = some u → j < 6 → w15.cell? ⟨p1, o1 + (k * 6 + j), none⟩ = some u := fun j u hj h6 => g1 (k * 6 + j) u (by rw [hv j h6]; exact hj)
      have hc2 : ∀ j u, (BC v2 BM[k].1)[j]? = some u → j < 6 → w15.cell? ⟨p2, o2 + (k * 6 + j), none⟩ = some u := fun j u hj h6 => g2 (k * 6 + j) u (by rw [hv2 j h6]; exact hj)
      have hS := hS3 v v2 BM[k].1 
      rw [hbc] at hc1 hc2
      rw [hbc, hbc] at hS
      generalize BM[k].1 = bo at *
      have a0 : w15.cell? ⟨p1, o1 + k * 6, none⟩ = some (.int .i64 xa) := hc1 0 _ rfl (by omega)
      have a1 : w15.cell? ⟨p1, o1 + k * 6 + 1, none⟩ = some (.int .i64 xb) := hc1 1 _ rfl (by omega)
      have a2 : w15.cell? ⟨p1, o1 + k * 6 + 2, none⟩ = some (.int .i64 xc) := hc1 2 _ rfl (by omega)
      have a3 : w15.cell? ⟨p1, o1 + k * 6 + 3, none⟩ = some (.int .i64 xd) := hc1 3 _ rfl (by omega)
      have a4 : w15.cell? ⟨p1, o1 + k * 6 + 4, none⟩ = some v := hc1 4 _ rfl (by omega)
      have a5 : w15.cell? ⟨p1, o1 + k * 6 + 5, none⟩ = some (.int .i64 bo) := hc1 5 _ rfl (by omega)
      have d0 : w15.cell? ⟨p2, o2 + k * 6, none⟩ = some (.int .i64 xa) := hc2 0 _ rfl (by omega)
      have d1 : w15.cell? ⟨p2, o2 + k * 6 + 1, none⟩ = some (.int .i64 xb) := hc2 1 _ rfl (by omega)
      have d2 : w15.cell? ⟨p2, o2 + k * 6 + 2, none⟩ = some (.int .i64 xc) := hc2 2 _ rfl (by omega)
      have d3 : w15.cell? ⟨p2, o2 + k * 6 + 3, none⟩ = some (.int .i64 xd) := hc2 3 _ rfl (by omega)
      have d4 : w15.cell? ⟨p2, o2 + k * 6 + 4, none⟩ = some v2 := hc2 4 _ rfl (by omega)
      have d5 : w15.cell? ⟨p2, o2 + k * 6 + 5, none⟩ = some (.int .i64 bo) := hc2 5 _ rfl (by omega)
      clear g1 g2 hc1 hc2 hv hv2 hvm hvm2
      simp (maxSteps := 1000000) (disch := first | omega | (simp only [sizeAlloc, sizeDrew, sizeSet, sizePut] <;> omega) | fail) only [GS, TT_eq, TTl, Nat.reduceAdd, Nat.reduceMul, Nat.reduceSub, Nat.reduceDiv, Nat.reduceMod, Nat.reducePow, Nat.reduceEqDiff, ↓reduceIte, reduceCtorEq, Int.reduceToNat, Int.reduceAdd, Int.reduceSub, Int.reduceMul]
      refine hold_draw okT (rs := [.tmp 4]) rfl [0, 0, 3, 7, 0, 0, 48, 112, 255, 511] [0, 1, 2, 3, 4, 5, 6, 7, 8, 9] (by kernel_rfl) (by kernel_rfl) ?_
      have hM1516 := (Mod.refl [] w15).drewN 1
      generalize w15.drewN 1 = w16 at *
      have a0 := cellM a0 hM1516
      have a1 := cellM a1 hM1516
      have a2 := cellM a2 hM1516
      have a3 := cellM a3 hM1516
      have a4 := cellM a4 hM1516
      have a5 := cellM a5 hM1516
      have d0 := cellM d0 hM1516
      have d1 := cellM d1 hM1516
      have d2 := cellM d2 hM1516
      have d3 := cellM d3 hM1516
      have d4 := cellM d4 hM1516
      have d5 := cellM d5 hM1516
      have hM016 := hM015.trans hM1516 (by simp)
      simp (maxSteps := 1000000) (disch := first | omega | (simp only [sizeAlloc, sizeDrew, sizeSet, sizePut] <;> omega) | fail) only [GS, TT_eq, TTl, Nat.reduceAdd, Nat.reduceMul, Nat.reduceSub, Nat.reduceDiv, Nat.reduceMod, Nat.reducePow, Nat.reduceEqDiff, ↓reduceIte, reduceCtorEq, Int.reduceToNat, Int.reduceAdd, Int.reduceSub, Int.reduceMul, a0, a1, a2, a3, a4, a5, d0, d1, d2, d3, d4, d5, hv1, osm, cellsL_one hv1, cellsL_one osm]
      refine ⟨fok36, hS _ hml (hvr.mod hM1516 (by simp)) (hmr.mod hM016 (by simp)) _ fun w17 hM17 => .inl ⟨_, rfl, ?_⟩⟩
      first | refine hold_dops okT (rs := [.tmp 4]) rfl ?_ | refine ⟨trivial, hold_dops okT (rs := [.tmp 4]) rfl ?_⟩
      have hM1417 := (hM15.trans hM1516 (by simp)).trans hM17 (by simp)
      simp (maxSteps := 1000000) (disch := first | omega | (simp only [sizeAlloc, sizeDrew, sizeSet, sizePut] <;> omega) | fail) only [GS, TT_eq, TTl, Nat.reduceAdd, Nat.reduceMul, Nat.reduceSub, Nat.reduceDiv, Nat.reduceMod, Nat.reducePow, Nat.reduceEqDiff, ↓reduceIte, reduceCtorEq, Int.reduceToNat, Int.reduceAdd, Int.reduceSub, Int.reduceMul]
      refine ⟨⟨k + 1, by omega, rfl, hM1417⟩, by omega⟩
    have hkb : k = BM.length := by omega
    subst hkb
    clear hbo14 hco14 hvo14 hblA hS3
    by_cases he : ee = 0
    rotate_left
    · simp (maxSteps := 1000000) (disch := first | omega | (simp only [sizeAlloc, sizeDrew, sizeSet, sizePut] <;> omega) | fail) only [GS, TT_eq, TTl, Nat.reduceAdd, Nat.reduceMul, Nat.reduceSub, Nat.reduceDiv, Nat.reduceMod, Nat.reducePow, Nat.reduceEqDiff, ↓reduceIte, reduceCtorEq, Int.reduceToNat, Int.reduceAdd, Int.reduceSub, Int.reduceMul, he]
      refine ⟨fok10, alive26_cps _ _ fun w30 hM30 => .inl ⟨_, rfl, hold_ops okT (rs := [.tmp 4]) rfl ?_⟩⟩
      simp (maxSteps := 1000000) (disch := first | omega | (simp only [sizeAlloc, sizeDrew, sizeSet, sizePut] <;> omega) | fail) only [GS, TT_eq, TTl, Nat.reduceAdd, Nat.reduceMul, Nat.reduceSub, Nat.reduceDiv, Nat.reduceMod, Nat.reducePow, Nat.reduceEqDiff, ↓reduceIte, reduceCtorEq, Int.reduceToNat, Int.reduceAdd, Int.reduceSub, Int.reduceMul]
      exact hR _ (hM015.trans hM30 (by simp))
    subst he
    obtain ⟨hda, hma, hcka⟩ := hback rfl
    have hal : ea.length ≤ maxLen := by have := (check0 hcka).2.2.1; unfold maxLen; omega
    simp (maxSteps := 1000000) (disch := first | omega | (simp only [sizeAlloc, sizeDrew, sizeSet, sizePut] <;> omega) | fail) only [GS, TT_eq, TTl, Nat.reduceAdd, Nat.reduceMul, Nat.reduceSub, Nat.reduceDiv, Nat.reduceMod, Nat.reducePow, Nat.reduceEqDiff, ↓reduceIte, reduceCtorEq, Int.reduceToNat, Int.reduceAdd, Int.reduceSub, Int.reduceMul, eq_self]
    refine ⟨fok11, eDecode_cps ea hal _ _ (fun r' sn su w16 hr' how' hot' hM16 => .inl ⟨_, rfl, hold_stop (s' := some 22) (hold_ops okT (rs := [.tmp 4]) rfl ?_)⟩) (fun c w16 hr' hM16 => absurd hda (by rw [hr']; simp))⟩
    rw [hda] at hr'
    simp only [Except.ok.injEq] at hr'
    subst hr'
    have hM016 := hM015.trans hM16 (by simp)
    have hA16 := hM16.get hA15 (by simp)
    have osn := ownsRow_one how'
    have osu' := ownsRow_one hot'
    unfold rcV rcC
    simp only at how' hot' ⊢
    simp (maxSteps := 1000000) (disch := first | omega | (simp only [sizeAlloc, sizeDrew, sizeSet, sizePut] <;> omega) | fail) only [GS, TT_eq, TTl, Nat.reduceAdd, Nat.reduceMul, Nat.reduceSub, Nat.reduceDiv, Nat.reduceMod, Nat.reducePow, Nat.reduceEqDiff, ↓reduceIte, reduceCtorEq, Int.reduceToNat, Int.reduceAdd, Int.reduceSub, Int.reduceMul, osn, cellsL_one osn, osu', cellsL_one osu']
    generalize hW : (((((((w16.alloc (.cells #[.int .i64 0, .int .i64 0, .int .i64 0, .int .i64 0, .slice none 0 0, .slice none 0 0] 28)).setCell ⟨w16.heap.size, 0, none⟩ (.int .i64 xa)).setCell ⟨w16.heap.size, 1, none⟩ (.int .i64 xb)).setCell ⟨w16.heap.size, 2, none⟩ (.int .i64 xc)).setCell ⟨w16.heap.size, 3, none⟩ (.int .i64 xd)).setCell ⟨w16.heap.size, 4, none⟩ (sn)).setCell ⟨w16.heap.size, 5, none⟩ (su)) = w17
    obtain ⟨hC, hM17⟩ := box6 hW
    clear hW
    have hA17 := hM17.get hA16 (by simp)
    have how17 := ownsRow_mod how' hM17 (by simp)
    have hot17 := ownsRow_mod hot' hM17 (by simp)
    have hM017 := hM016.trans hM17 (by simp)
    generalize w16.heap.size = q2 at *
    refine hold_stop (s' := none) ?_
    refine hold_code okT (rs := [.tmp 4]) rfl ?_
    have cA := fun o => cellOf (o := o) hA17
    have cC := fun o => cellOf (o := o) hC
    simp (maxSteps := 1000000) (disch := first | omega | (simp only [sizeAlloc, sizeDrew, sizeSet, sizePut] <;> omega) | fail) only [GS, TT_eq, TTl, Nat.reduceAdd, Nat.reduceMul, Nat.reduceSub, Nat.reduceDiv, Nat.reduceMod, Nat.reducePow, Nat.reduceEqDiff, ↓reduceIte, reduceCtorEq, Int.reduceToNat, Int.reduceAdd, Int.reduceSub, Int.reduceMul, cA, cC, eq_self]
    refine ⟨fok13, hSm _ _ _ _ _ _ hml htl (Rd.own how17) (hmr.mod hM017 (by simp)) (Rd.own hot17) (htr.mod hM017 (by simp)) fun w18 hM18 => .inl ⟨_, rfl, hold_ops okT (rs := [.tmp 4]) rfl ?_⟩⟩
    have hM018 := hM017.trans hM18 (by simp)
    simp (maxSteps := 1000000) (disch := first | omega | (simp only [sizeAlloc, sizeDrew, sizeSet, sizePut] <;> omega) | fail) only [GS, TT_eq, TTl, Nat.reduceAdd, Nat.reduceMul, Nat.reduceSub, Nat.reduceDiv, Nat.reduceMod, Nat.reducePow, Nat.reduceEqDiff, ↓reduceIte, reduceCtorEq, Int.reduceToNat, Int.reduceAdd, Int.reduceSub, Int.reduceMul]
    refine ⟨fok10, alive26_cps _ _ fun w30 hM30 => .inl ⟨_, rfl, hold_ops okT (rs := [.tmp 4]) rfl ?_⟩⟩
    simp (maxSteps := 1000000) (disch := first | omega | (simp only [sizeAlloc, sizeDrew, sizeSet, sizePut] <;> omega) | fail) only [GS, TT_eq, TTl, Nat.reduceAdd, Nat.reduceMul, Nat.reduceSub, Nat.reduceDiv, Nat.reduceMod, Nat.reducePow, Nat.reduceEqDiff, ↓reduceIte, reduceCtorEq, Int.reduceToNat, Int.reduceAdd, Int.reduceSub, Int.reduceMul]
    exact hR _ (hM018.trans hM30 (by simp))
end Go.Proofs.YtpcilobbohokcaaGreat
