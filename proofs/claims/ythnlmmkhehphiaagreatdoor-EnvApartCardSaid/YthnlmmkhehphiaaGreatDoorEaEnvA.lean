/-
  env: Tag, Fits, of a suite of terms; chirographlaw20: one, Long, alive (walks); an envelope as an argument.
-/
import Derived.Test.YthnlmmkhehphiaaGreatDoorEaEnv9
import Derived.Test.YthnlmmkhehphiaaGreatDoorEaBal2
import Derived.Test.YthnlmmkhehphiaaGreatDoorEaW2
set_option linter.unusedSimpArgs false
set_option linter.unusedVariables false
set_option maxRecDepth 20000
namespace Go.Proofs.YthnlmmkhehphiaaGreatDoor
open Go Go.Wk Go.RowKit
attribute [local irreducible] go Hold
open Go.Lib
/-- The tag of an envelope, in a suite of terms. -/
def etagS (x : Ev) : List UInt8 × Int := if (headS x).2 = 0 then madeS [109] [(atomS (keyL 1 x.f x.t)).1, (headS x).1] else ([], (headS x).2)
theorem head_is {x : Ev} (h : (headS x).2 = 0) : mayH x = true := by
  unfold headS at h
  split at h
  · assumption
  · simp at h
theorem head_len (x : Ev) : (headS x).1.length ≤ 16384 := by
  unfold headS
  split
  · exact made_len _ _
  · simp
theorem etag_len (x : Ev) : (etagS x).1.length ≤ 16384 := by
  unfold etagS
  split
  · exact made_len _ _
  · simp
theorem encE_len (x : Ev) : (encE x).1.length ≤ 16384 := by
  unfold encE
  split
  · exact made_len _ _
  · simp
set_option maxRecDepth 20000 in
set_option maxHeartbeats 8000000 in
theorem eTag_cps (s : Nat) (x : Ev) (hx : EvIn x) (w : World) (hs : isSui w s) (hg : KG w) (R : Ending → World → Prop) (hR : ∀ w', Mod [] w w' → R (.returned (stV (etagS x))) w') :
    Calls Tryz.prog 25 #[.pointer (some ⟨s, 0, none⟩), evV x] w R := by
  have hHd := enHead_cps x hx
  have hhi := @head_is x
  have hhl := head_len x
  unfold etagS at hR
  generalize headS x = D at *
  obtain ⟨dt, de⟩ := D
  unfold evV evC stV at hHd
  simp only at hHd hhi hhl hR
  unfold evV evC
  refine calls_go 4000 okT Tryz.func25 rfl (rs := [.tmp 4, .tmp 5]) rfl Tryz.ntmps25 (args := [.pointer (some ⟨s, 0, none⟩), .agg #[.int .i64 x.f, .int .i64 x.t, .int .i64 x.fe, .int .i64 x.te, .int .i64 x.no, .string ⟨x.body.toArray⟩, .string ⟨x.tag.toArray⟩]]) ?_
  simp (maxSteps := 1000000) (disch := first | omega | (simp only [sizeAlloc, sizeDrew, sizeSet, sizePut] <;> omega) | fail) only [GS, TT_eq, TTl, Nat.reduceAdd, Nat.reduceMul, Nat.reduceSub, Nat.reduceDiv, Nat.reduceMod, Nat.reducePow, Nat.reduceEqDiff, ↓reduceIte, reduceCtorEq, Int.reduceToNat, Int.reduceAdd, Int.reduceSub, Int.reduceMul]
  generalize hW : w.alloc (.cells #[.int .i64 x.f, .int .i64 x.t, .int .i64 x.fe, .int .i64 x.te, .int .i64 x.no, .string ⟨x.body.toArray⟩, .string ⟨x.tag.toArray⟩] 42) = w1
  obtain ⟨hA, hM0⟩ := bx7 hW
  clear hW
  refine ⟨fok17, hHd _ _ fun w2 hM2 => .inl ⟨_, rfl, hold_ops okT (rs := [.tmp 4, .tmp 5]) rfl ?_⟩⟩
  have hA2 := hM2.get hA (by simp)
  have hM02 := hM0.trans hM2 (by simp)
  have c2 := fun o => cellOf (o := o) hA2
  by_cases he : de = 0
  rotate_left
  · rw [if_neg he] at hR
    unfold stV at hR
    simp (maxSteps := 1000000) (disch := first | omega | (simp only [sizeAlloc, sizeDrew, sizeSet, sizePut] <;> omega) | fail) only [GS, TT_eq, TTl, Nat.reduceAdd, Nat.reduceMul, Nat.reduceSub, Nat.reduceDiv, Nat.reduceMod, Nat.reducePow, Nat.reduceEqDiff, ↓reduceIte, reduceCtorEq, Int.reduceToNat, Int.reduceAdd, Int.reduceSub, Int.reduceMul, he]
    exact hR _ hM02
  rw [if_pos he] at hR
  obtain ⟨hf, ht, -⟩ := mayH_iff.1 (hhi he)
  subst he
  simp (maxSteps := 1000000) (disch := first | omega | (simp only [sizeAlloc, sizeDrew, sizeSet, sizePut] <;> omega) | fail) only [GS, TT_eq, TTl, Nat.reduceAdd, Nat.reduceMul, Nat.reduceSub, Nat.reduceDiv, Nat.reduceMod, Nat.reducePow, Nat.reduceEqDiff, ↓reduceIte, reduceCtorEq, Int.reduceToNat, Int.reduceAdd, Int.reduceSub, Int.reduceMul, c2]
  refine ⟨fok40, kTag_cps x.f x.t _ _ (hg.mod hM02 (by simp)) fun w3 hM3 => .inl ⟨_, rfl, hold_ops okT (rs := [.tmp 4, .tmp 5]) rfl ?_⟩⟩
  have hM03 := hM02.trans hM3 (by simp)
  have hkl : (keyL 1 x.f x.t).length ≤ maxLen := by unfold keyL maxLen; simp
  unfold keyA
  rw [if_pos (show pairOk x.f x.t from ⟨⟨hf.1, by omega⟩, ht.1, by omega⟩)]
  generalize keyL 1 x.f x.t = kn at *
  simp (maxSteps := 1000000) (disch := first | omega | (simp only [sizeAlloc, sizeDrew, sizeSet, sizePut] <;> omega) | fail) only [GS, TT_eq, TTl, Nat.reduceAdd, Nat.reduceMul, Nat.reduceSub, Nat.reduceDiv, Nat.reduceMod, Nat.reducePow, Nat.reduceEqDiff, ↓reduceIte, reduceCtorEq, Int.reduceToNat, Int.reduceAdd, Int.reduceSub, Int.reduceMul]
  refine ⟨fok41, sKey_cps s kn hkl _ (hs.mod hM03) _ fun w4 hM4 => .inl ⟨_, rfl, hold_ops okT (rs := [.tmp 4, .tmp 5]) rfl ?_⟩⟩
  have hM04 := hM03.trans hM4 (by simp)
  have hal := atomS_len kn
  generalize atomS kn = Ak at *
  obtain ⟨at_, ae⟩ := Ak
  unfold stV
  simp only at hal hR
  simp (maxSteps := 1000000) (disch := first | omega | (simp only [sizeAlloc, sizeDrew, sizeSet, sizePut] <;> omega) | fail) only [GS, TT_eq, TTl, Nat.reduceAdd, Nat.reduceMul, Nat.reduceSub, Nat.reduceDiv, Nat.reduceMod, Nat.reducePow, Nat.reduceEqDiff, ↓reduceIte, reduceCtorEq, Int.reduceToNat, Int.reduceAdd, Int.reduceSub, Int.reduceMul]
  refine ⟨fok42, sMac_cps s at_ dt hal (by omega) _ (hs.mod hM04) _ fun w5 hM5 => .inl ⟨_, rfl, hold_ops okT (rs := [.tmp 4, .tmp 5]) rfl ?_⟩⟩
  have hM05 := hM04.trans hM5 (by simp)
  unfold stV at hR ⊢
  simp (maxSteps := 1000000) (disch := first | omega | (simp only [sizeAlloc, sizeDrew, sizeSet, sizePut] <;> omega) | fail) only [GS, TT_eq, TTl, Nat.reduceAdd, Nat.reduceMul, Nat.reduceSub, Nat.reduceDiv, Nat.reduceMod, Nat.reducePow, Nat.reduceEqDiff, ↓reduceIte, reduceCtorEq, Int.reduceToNat, Int.reduceAdd, Int.reduceSub, Int.reduceMul]
  exact hR _ hM05
set_option maxRecDepth 20000 in
set_option maxHeartbeats 8000000 in
theorem eFits_cps (s : Nat) (x : Ev) (hx : EvIn x) (w : World) (hs : isSui w s) (hg : KG w) (R : Ending → World → Prop) (hR : ∀ w', Mod [] w w' → R (.returned (.bool (decide ((etagS x).2 = 0) && decide ((etagS x).1 = x.tag)))) w') :
    Calls Tryz.prog 26 #[.pointer (some ⟨s, 0, none⟩), evV x] w R := by
  have hTg := eTag_cps s x hx
  have htl := etag_len x
  generalize etagS x = D at *
  obtain ⟨dt, de⟩ := D
  unfold evV evC stV at hTg
  simp only at hTg htl hR
  unfold evV evC
  refine calls_go 4000 okT Tryz.func26 rfl (rs := [.tmp 4]) rfl Tryz.ntmps26 (args := [.pointer (some ⟨s, 0, none⟩), .agg #[.int .i64 x.f, .int .i64 x.t, .int .i64 x.fe, .int .i64 x.te, .int .i64 x.no, .string ⟨x.body.toArray⟩, .string ⟨x.tag.toArray⟩]]) ?_
  simp (maxSteps := 1000000) (disch := first | omega | (simp only [sizeAlloc, sizeDrew, sizeSet, sizePut] <;> omega) | fail) only [GS, TT_eq, TTl, Nat.reduceAdd, Nat.reduceMul, Nat.reduceSub, Nat.reduceDiv, Nat.reduceMod, Nat.reducePow, Nat.reduceEqDiff, ↓reduceIte, reduceCtorEq, Int.reduceToNat, Int.reduceAdd, Int.reduceSub, Int.reduceMul]
  generalize hW : w.alloc (.cells #[.int .i64 x.f, .int .i64 x.t, .int .i64 x.fe, .int .i64 x.te, .int .i64 x.no, .string ⟨x.body.toArray⟩, .string ⟨x.tag.toArray⟩] 42) = w1
  obtain ⟨hA, hM0⟩ := bx7 hW
  clear hW
  refine ⟨fok25, hTg _ (hs.mod hM0) (hg.mod hM0 (by simp)) _ fun w2 hM2 => .inl ⟨_, rfl, hold_ops okT (rs := [.tmp 4]) rfl ?_⟩⟩
  have hM02 := hM0.trans hM2 (by simp)
  have c2 := fun o => cellOf (o := o) (hM2.get hA (by simp))
  by_cases he : de = 0
  rotate_left
  · rw [decide_eq_false he, Bool.false_and] at hR
    simp (maxSteps := 1000000) (disch := first | omega | (simp only [sizeAlloc, sizeDrew, sizeSet, sizePut] <;> omega) | fail) only [GS, TT_eq, TTl, Nat.reduceAdd, Nat.reduceMul, Nat.reduceSub, Nat.reduceDiv, Nat.reduceMod, Nat.reducePow, Nat.reduceEqDiff, ↓reduceIte, reduceCtorEq, Int.reduceToNat, Int.reduceAdd, Int.reduceSub, Int.reduceMul, he]
    exact hR _ hM02
  rw [decide_eq_true he, Bool.true_and] at hR
  subst he
  simp (maxSteps := 1000000) (disch := first | omega | (simp only [sizeAlloc, sizeDrew, sizeSet, sizePut] <;> omega) | fail) only [GS, TT_eq, TTl, Nat.reduceAdd, Nat.reduceMul, Nat.reduceSub, Nat.reduceDiv, Nat.reduceMod, Nat.reducePow, Nat.reduceEqDiff, ↓reduceIte, reduceCtorEq, Int.reduceToNat, Int.reduceAdd, Int.reduceSub, Int.reduceMul, c2]
  refine ⟨fok45, sSame_cps s dt x.tag (by unfold maxLen; omega) _ _ fun w3 hM3 => .inl ⟨_, rfl, hold_ops okT (rs := [.tmp 4]) rfl ?_⟩⟩
  simp (maxSteps := 1000000) (disch := first | omega | (simp only [sizeAlloc, sizeDrew, sizeSet, sizePut] <;> omega) | fail) only [GS, TT_eq, TTl, Nat.reduceAdd, Nat.reduceMul, Nat.reduceSub, Nat.reduceDiv, Nat.reduceMod, Nat.reducePow, Nat.reduceEqDiff, ↓reduceIte, reduceCtorEq, Int.reduceToNat, Int.reduceAdd, Int.reduceSub, Int.reduceMul]
  exact hR _ (hM02.trans hM3 (by simp))
def longE (x : Ev) : Bool := decide (20000 < x.body.length) || decide (20000 < x.tag.length)
theorem longE_is {x : Ev} (h : longE x = false) : x.body.length ≤ 20000 ∧ x.tag.length ≤ 20000 := by
  unfold longE at h
  simp only [Bool.or_eq_false_iff, decide_eq_false_iff_not] at h
  omega
theorem longE_in {x : Ev} (h : longE x = false) : EvIn x := ⟨by have := longE_is h; unfold maxLen; omega, by have := longE_is h; unfold maxLen; omega⟩
set_option maxRecDepth 20000 in
set_option maxHeartbeats 4000000 in
theorem Long20_cps (x : Ev) (hx : EvIn x) (w : World) (R : Ending → World → Prop) (hR : ∀ w', Mod [] w w' → R (.returned (.bool (longE x))) w') :
    Calls Tryz.prog 15 #[evV x] w R := by
  have hb := hx.body
  have ht := hx.tag
  unfold longE at hR
  unfold evV evC
  refine calls_go 4000 okT Tryz.func15 rfl (rs := [.tmp 2]) rfl Tryz.ntmps15 (args := [.agg #[.int .i64 x.f, .int .i64 x.t, .int .i64 x.fe, .int .i64 x.te, .int .i64 x.no, .string ⟨x.body.toArray⟩, .string ⟨x.tag.toArray⟩]]) ?_
  by_cases h1 : 20000 < x.body.length
  · rw [decide_eq_true h1] at hR
    simp (maxSteps := 1000000) (disch := first | omega | (simp only [sizeAlloc, sizeDrew, sizeSet, sizePut] <;> omega) | fail) only [GS, TT_eq, TTl, Nat.reduceAdd, Nat.reduceMul, Nat.reduceSub, Nat.reduceDiv, Nat.reduceMod, Nat.reducePow, Nat.reduceEqDiff, ↓reduceIte, reduceCtorEq, Int.reduceToNat, Int.reduceAdd, Int.reduceSub, Int.reduceMul]
    exact hR _ ((Mod.refl [] w).alloc _)
  · rw [decide_eq_false h1] at hR
    by_cases h2 : 20000 < x.tag.length
    · rw [decide_eq_true h2] at hR
      simp (maxSteps := 1000000) (disch := first | omega | (simp only [sizeAlloc, sizeDrew, sizeSet, sizePut] <;> omega) | fail) only [GS, TT_eq, TTl, Nat.reduceAdd, Nat.reduceMul, Nat.reduceSub, Nat.reduceDiv, Nat.reduceMod, Nat.reducePow, Nat.reduceEqDiff, ↓reduceIte, reduceCtorEq, Int.reduceToNat, Int.reduceAdd, Int.reduceSub, Int.reduceMul]
      exact hR _ ((Mod.refl [] w).alloc _)
    · rw [decide_eq_false h2] at hR
      simp (maxSteps := 1000000) (disch := first | omega | (simp only [sizeAlloc, sizeDrew, sizeSet, sizePut] <;> omega) | fail) only [GS, TT_eq, TTl, Nat.reduceAdd, Nat.reduceMul, Nat.reduceSub, Nat.reduceDiv, Nat.reduceMod, Nat.reducePow, Nat.reduceEqDiff, ↓reduceIte, reduceCtorEq, Int.reduceToNat, Int.reduceAdd, Int.reduceSub, Int.reduceMul]
      exact hR _ ((Mod.refl [] w).alloc _)
def E1 : Ev := ⟨0, 1, 1, 2, 3, [100, 0], []⟩
set_option maxRecDepth 20000 in
set_option maxHeartbeats 4000000 in
theorem one20_cps (w : World) (R : Ending → World → Prop) (hR : ∀ w', Mod [] w w' → R (.returned (evV E1)) w') :
    Calls Tryz.prog 46 #[] w R := by
  refine calls_go 4000 okT Tryz.func46 rfl (rs := [.cell 0 42]) rfl Tryz.ntmps46 (args := []) ?_
  simp (maxSteps := 1000000) (disch := first | omega | (simp only [sizeAlloc, sizeDrew, sizeSet, sizePut] <;> omega) | fail) only [GS, TT_eq, TTl, Nat.reduceAdd, Nat.reduceMul, Nat.reduceSub, Nat.reduceDiv, Nat.reduceMod, Nat.reducePow, Nat.reduceEqDiff, ↓reduceIte, reduceCtorEq, Int.reduceToNat, Int.reduceAdd, Int.reduceSub, Int.reduceMul]
  refine load7r (st7z (heapNew (w := w) (o := (.cells #[.int .i64 0, .int .i64 0, .int .i64 0, .int .i64 0, .int .i64 0, .string ⟨#[]⟩, .string ⟨#[]⟩] 42)))) ?_
  exact hR _ (modSet7z ((Mod.refl [] w).alloc (.cells #[.int .i64 0, .int .i64 0, .int .i64 0, .int .i64 0, .int .i64 0, .string ⟨#[]⟩, .string ⟨#[]⟩] 42)) (.inr (Nat.le_refl _)))
section
variable {H : Type} {enc : TypeId × Value → H} {w : World} {base : Nat} {spare : Nat → Bool} {held : Bool}
theorem cells7e {cs : List Value} (hl : cs.length = 7) : ∃ k0 k1 k2 k3 k4 k5 k6, cs = [k0, k1, k2, k3, k4, k5, k6] := by
  match cs, hl with
  | [k0, k1, k2, k3, k4, k5, k6], _ => exact ⟨_, _, _, _, _, _, _, rfl⟩
set_option maxHeartbeats 4000000 in
theorem env_el : ∀ n cs y, DataW.trod enc Tryz.prog w base spare held n 42 cs = some y → ∃ a : Ev, cs = evC a ∧ EvIn a := by
  intro n cs y h
  obtain ⟨hl, hf⟩ := el_field Tryz.underlying42 h
  rw [show Tryz.prog.cellsOf 42 = 7 from by kernel_rfl] at hl
  obtain ⟨m0, z0, e0⟩ := hf 0 _ rfl
  obtain ⟨m1, z1, e1⟩ := hf 1 _ rfl
  obtain ⟨m2, z2, e2⟩ := hf 2 _ rfl
  obtain ⟨m3, z3, e3⟩ := hf 3 _ rfl
  obtain ⟨m4, z4, e4⟩ := hf 4 _ rfl
  obtain ⟨m5, z5, e5⟩ := hf 5 _ rfl
  obtain ⟨m6, z6, e6⟩ := hf 6 _ rfl
  obtain ⟨a0, f0, _, g0⟩ := DataW.trod_int Tryz.underlying3 e0
  obtain ⟨a1, f1, _, g1⟩ := DataW.trod_int Tryz.underlying3 e1
  obtain ⟨a2, f2, _, g2⟩ := DataW.trod_int Tryz.underlying3 e2
  obtain ⟨a3, f3, _, g3⟩ := DataW.trod_int Tryz.underlying3 e3
  obtain ⟨a4, f4, _, g4⟩ := DataW.trod_int Tryz.underlying3 e4
  obtain ⟨a5, f5, _, g5⟩ := DataW.trod_string Tryz.underlying9 e5
  obtain ⟨a6, f6, _, g6⟩ := DataW.trod_string Tryz.underlying9 e6
  have f0 : List.take (Tryz.prog.cellsOf 3) (List.drop 0 cs) = _ := f0
  have f1 : List.take (Tryz.prog.cellsOf 3) (List.drop 1 cs) = _ := f1
  have f2 : List.take (Tryz.prog.cellsOf 3) (List.drop 2 cs) = _ := f2
  have f3 : List.take (Tryz.prog.cellsOf 3) (List.drop 3 cs) = _ := f3
  have f4 : List.take (Tryz.prog.cellsOf 3) (List.drop 4 cs) = _ := f4
  have f5 : List.take (Tryz.prog.cellsOf 9) (List.drop 5 cs) = _ := f5
  have f6 : List.take (Tryz.prog.cellsOf 9) (List.drop 6 cs) = _ := f6
  rw [show Tryz.prog.cellsOf 3 = 1 from by kernel_rfl] at f0 f1 f2 f3 f4
  rw [show Tryz.prog.cellsOf 9 = 1 from by kernel_rfl] at f5 f6
  obtain ⟨k0, k1, k2, k3, k4, k5, k6, rfl⟩ := cells7e hl
  clear e0 e1 e2 e3 e4 e5 e6 hf h
  simp only [List.drop_succ_cons, List.drop_zero, List.take_succ_cons, List.take_zero, List.cons.injEq, and_true] at f0 f1 f2 f3 f4 f5 f6
  refine ⟨⟨a0, a1, a2, a3, a4, a5.data.toList, a6.data.toList⟩, ?_, ⟨?_, ?_⟩⟩
  · show _ = [Value.int .i64 a0, Value.int .i64 a1, Value.int .i64 a2, Value.int .i64 a3, Value.int .i64 a4, Value.string ⟨a5.data.toList.toArray⟩, Value.string ⟨a6.data.toList.toArray⟩]
    rw [byL, byL, f0, f1, f2, f3, f4, f5, f6]
  · show a5.data.toList.length ≤ maxLen
    rw [Array.length_toList]
    exact g5
  · show a6.data.toList.length ≤ maxLen
    rw [Array.length_toList]
    exact g6
end
end Go.Proofs.YthnlmmkhehphiaaGreatDoor
