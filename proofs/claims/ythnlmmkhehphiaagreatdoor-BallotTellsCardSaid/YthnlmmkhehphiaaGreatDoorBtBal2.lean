/-
  ballot: Digest, Tag, Fits, of a suite of terms (walks).
-/
import Derived.Test.YthnlmmkhehphiaaGreatDoorBtBal1
import Derived.Test.YthnlmmkhehphiaaGreatDoorBtKey1
set_option linter.unusedSimpArgs false
set_option linter.unusedVariables false
set_option maxRecDepth 20000
namespace Go.Proofs.YthnlmmkhehphiaaGreatDoor
open Go Go.Wk Go.RowKit
attribute [local irreducible] go Hold
open Go.Lib
theorem mbs_ltB {c : Int} : ∀ {l : List Mb} {last : Int}, mbsB c last l = true → ∀ m ∈ l, last < m.1
  | [], _, _, m, hm => by simp at hm
  | x :: l, last, h, m, hm => by
    rw [mbsB, Bool.and_eq_true, decide_eq_true_eq] at h
    rcases List.mem_cons.1 hm with rfl | hm
    · exact h.1.2.2.1
    · have := mbs_ltB h.2 m hm
      have := h.1.2.2.1
      omega
/-- What a ballot says of its member. -/
def digS : List Mb → Int → List UInt8
  | [], _ => []
  | m :: l, o => if m.1 = o then m.2 else digS l o
theorem dig_at {c : Int} : ∀ {l : List Mb} {last : Int} {k : Nat} (hk : k < l.length) {o : Int}, mbsB c last l = true → l[k].1 = o → digS l o = l[k].2
  | [], _, k, hk, _, _, _ => by simp at hk
  | m :: l, last, 0, _, o, _, e => by
    unfold digS
    rw [if_pos (by simpa using e)]
    rfl
  | m :: l, last, k + 1, hk, o, h, e => by
    simp only [List.length_cons, Nat.add_lt_add_iff_right] at hk
    simp only [List.getElem_cons_succ] at e ⊢
    have h2 := h
    rw [mbsB, Bool.and_eq_true, decide_eq_true_eq] at h2
    have := mbs_ltB h2.2 _ (List.getElem_mem hk)
    unfold digS
    rw [if_neg (by omega)]
    exact dig_at hk h2.2 e
def digR (x : Tx) (aud : Int) (mbs : List Mb) (org : Int) : List UInt8 × Bool := if balB x aud mbs org = true then (digS mbs org, true) else ([], false)
set_option maxRecDepth 20000 in
set_option maxHeartbeats 8000000 in
theorem bDig_cps (x : Tx) (aud : Int) (ms : Value) (mbs : List Mb) (org : Int) (w : World) (hl : mbs.length ≤ 1000000) (hd : ∀ m ∈ mbs, m.2.length ≤ maxLen) (ha : Rd w 2 ms mbs.length (mbs.flatMap mbC)) (R : Ending → World → Prop) (hR : ∀ w', Mod [] w w' → R (.returned (.tuple #[.string ⟨(digR x aud mbs org).1.toArray⟩, .bool (digR x aud mbs org).2])) w') :
    Calls Tryz.prog 32 #[balV x aud ms org] w R := by
  have hCk := fun w h => balCheck_cps x aud ms mbs org w hl hd h
  have hbi := @bal_is x aud mbs org
  have hno0 : balB x aud mbs org = true → ¬ ∀ m ∈ mbs, m.1 ≠ org := fun h g => by
    unfold balB at h
    rw [any_no g, Bool.and_false] at h
    simp at h
  unfold digR at hR
  generalize balB x aud mbs org = B at *
  obtain ⟨a, b, c⟩ := x
  obtain ⟨pm, cm, rfl⟩ := ha.slice
  unfold balV at hCk ⊢
  simp only at hCk hR hbi ⊢
  refine calls_go 4000 okT Tryz.func32 rfl (rs := [.tmp 2, .tmp 3]) rfl Tryz.ntmps32 (args := [.agg #[.int .i64 a, .int .i64 b, .int .i64 c, .int .i64 aud, .slice pm mbs.length cm, .int .i64 org]]) ?_
  simp (maxSteps := 1000000) (disch := first | omega | (simp only [sizeAlloc, sizeDrew, sizeSet, sizePut] <;> omega) | fail) only [GS, TT_eq, TTl, Nat.reduceAdd, Nat.reduceMul, Nat.reduceSub, Nat.reduceDiv, Nat.reduceMod, Nat.reducePow, Nat.reduceEqDiff, ↓reduceIte, reduceCtorEq, Int.reduceToNat, Int.reduceAdd, Int.reduceSub, Int.reduceMul]
  generalize hW : w.alloc (.cells #[.int .i64 a, .int .i64 b, .int .i64 c, .int .i64 aud, .slice pm mbs.length cm, .int .i64 org] 26) = w1
  obtain ⟨hA, hM0⟩ := bx6 hW
  clear hW
  generalize hn : w.heap.size = n at *
  refine ⟨fok31, hCk _ (ha.mod hM0 (by simp)) _ fun w2 hM2 => .inl ⟨_, rfl, hold_ops okT (rs := [.tmp 2, .tmp 3]) rfl ?_⟩⟩
  have hA2 := hM2.get hA (by simp)
  have hM02 := hM0.trans hM2 (by simp)
  cases B
  · simp only [Bool.false_eq_true, if_false] at hR ⊢
    simp (maxSteps := 1000000) (disch := first | omega | (simp only [sizeAlloc, sizeDrew, sizeSet, sizePut] <;> omega) | fail) only [GS, TT_eq, TTl, Nat.reduceAdd, Nat.reduceMul, Nat.reduceSub, Nat.reduceDiv, Nat.reduceMod, Nat.reducePow, Nat.reduceEqDiff, ↓reduceIte, reduceCtorEq, Int.reduceToNat, Int.reduceAdd, Int.reduceSub, Int.reduceMul]
    exact hR _ hM02
  simp only [if_true] at hR ⊢
  obtain ⟨-, -, hmm, -⟩ := hbi rfl
  have hmB := hmm
  unfold mbB at hmB
  rw [Bool.and_eq_true] at hmB
  have hda := fun {k : Nat} (hk : k < mbs.length) h => dig_at hk (o := org) hmB.1 h
  simp (maxSteps := 1000000) (disch := first | omega | (simp only [sizeAlloc, sizeDrew, sizeSet, sizePut] <;> omega) | fail) only [GS, TT_eq, TTl, Nat.reduceAdd, Nat.reduceMul, Nat.reduceSub, Nat.reduceDiv, Nat.reduceMod, Nat.reducePow, Nat.reduceEqDiff, ↓reduceIte, reduceCtorEq, Int.reduceToNat, Int.reduceAdd, Int.reduceSub, Int.reduceMul]
  refine hold_draw okT (rs := [.tmp 2, .tmp 3]) rfl [0, 1, 0, 4, 0, 16, 60, 127, 255, 511, 1023, 2047] [0, 1, 2, 3, 4, 5, 6, 7, 8, 9, 10, 11] (by kernel_rfl) (by kernel_rfl) ?_
  have hM23 := (Mod.refl [] w2).drewN 1
  generalize w2.drewN 1 = w3 at *
  have hA3 := hM23.get hA2 (by simp)
  have hM03 := hM02.trans hM23 (by simp)
  have c3 := fun o => cellOf (o := o) hA3
  simp (maxSteps := 1000000) (disch := first | omega | (simp only [sizeAlloc, sizeDrew, sizeSet, sizePut] <;> omega) | fail) only [GS, TT_eq, TTl, Nat.reduceAdd, Nat.reduceMul, Nat.reduceSub, Nat.reduceDiv, Nat.reduceMod, Nat.reducePow, Nat.reduceEqDiff, ↓reduceIte, reduceCtorEq, Int.reduceToNat, Int.reduceAdd, Int.reduceSub, Int.reduceMul, c3]
  refine ⟨fok73, bFind_cps _ mbs org _ _ (by omega) (ha.mod hM03 (by simp)) (fun k w4 hk hko hM4 => .inl ⟨_, rfl, ?_⟩) (fun hno w4 hM4 => absurd hno (hno0 rfl))⟩
  have hA4 := hM4.get hA3 (by simp)
  have c4 := fun o => cellOf (o := o) hA4
  have hM04 := hM03.trans hM4 (by simp)
  first | refine hold_dops okT (rs := [.tmp 2, .tmp 3]) rfl ?_ | refine ⟨(by repeat' (first | exact c4 _ | apply And.intro)), hold_dops okT (rs := [.tmp 2, .tmp 3]) rfl ?_⟩
  obtain ⟨b1, o1, c1, e1, _, g1⟩ := (ha.mod hM04 (by simp)).at (by omega) (by omega)
  have hfl := fun j hj => flat_get mbC 2 mbC_len mbs k hk j hj
  rw [Value.slice.injEq] at e1
  obtain ⟨rfl, -, -⟩ := e1
  have hda2 := hda hk hko
  generalize mbs[k] = m at hfl hda2
  have d1 : w4.cell? ⟨b1, o1 + k * 2 + 1, none⟩ = some (.string ⟨m.2.toArray⟩) := by rw [← g1 (k * 2 + 1) _ (hfl 1 (by omega))]; rfl
  rw [hda2] at hR
  simp (maxSteps := 1000000) (disch := first | omega | (simp only [sizeAlloc, sizeDrew, sizeSet, sizePut] <;> omega) | fail) only [GS, TT_eq, TTl, Nat.reduceAdd, Nat.reduceMul, Nat.reduceSub, Nat.reduceDiv, Nat.reduceMod, Nat.reducePow, Nat.reduceEqDiff, ↓reduceIte, reduceCtorEq, Int.reduceToNat, Int.reduceAdd, Int.reduceSub, Int.reduceMul, c4, d1]
  exact hR _ hM04
set_option maxRecDepth 20000 in
set_option maxHeartbeats 8000000 in
theorem rDig_cps (x : Tx) (aud : Int) (ms : Value) (mbs : List Mb) (org : Int) (w : World) (hl : mbs.length ≤ 1000000) (hd : ∀ m ∈ mbs, m.2.length ≤ maxLen) (ha : Rd w 2 ms mbs.length (mbs.flatMap mbC)) (R : Ending → World → Prop) (hR : ∀ w', Mod [] w w' → R (.returned (.tuple #[.string ⟨(digR x aud mbs org).1.toArray⟩, .bool (digR x aud mbs org).2])) w') :
    Calls Tryz.prog 33 #[balV x aud ms org] w R := by
  have hCk := fun w h => balMay_cps x aud ms mbs org w hl hd h
  have hbi := @bal_is x aud mbs org
  have hno0 : balB x aud mbs org = true → ¬ ∀ m ∈ mbs, m.1 ≠ org := fun h g => by
    unfold balB at h
    rw [any_no g, Bool.and_false] at h
    simp at h
  unfold digR at hR
  generalize balB x aud mbs org = B at *
  obtain ⟨a, b, c⟩ := x
  obtain ⟨pm, cm, rfl⟩ := ha.slice
  unfold balV at hCk ⊢
  simp only at hCk hR hbi ⊢
  refine calls_go 4000 okT Tryz.func33 rfl (rs := [.tmp 2, .tmp 3]) rfl Tryz.ntmps33 (args := [.agg #[.int .i64 a, .int .i64 b, .int .i64 c, .int .i64 aud, .slice pm mbs.length cm, .int .i64 org]]) ?_
  simp (maxSteps := 1000000) (disch := first | omega | (simp only [sizeAlloc, sizeDrew, sizeSet, sizePut] <;> omega) | fail) only [GS, TT_eq, TTl, Nat.reduceAdd, Nat.reduceMul, Nat.reduceSub, Nat.reduceDiv, Nat.reduceMod, Nat.reducePow, Nat.reduceEqDiff, ↓reduceIte, reduceCtorEq, Int.reduceToNat, Int.reduceAdd, Int.reduceSub, Int.reduceMul]
  generalize hW : w.alloc (.cells #[.int .i64 a, .int .i64 b, .int .i64 c, .int .i64 aud, .slice pm mbs.length cm, .int .i64 org] 26) = w1
  obtain ⟨hA, hM0⟩ := bx6 hW
  clear hW
  generalize hn : w.heap.size = n at *
  refine ⟨fok34, hCk _ (ha.mod hM0 (by simp)) _ fun w2 hM2 => .inl ⟨_, rfl, hold_ops okT (rs := [.tmp 2, .tmp 3]) rfl ?_⟩⟩
  have hA2 := hM2.get hA (by simp)
  have hM02 := hM0.trans hM2 (by simp)
  cases B
  · simp only [Bool.false_eq_true, if_false] at hR
    simp (maxSteps := 1000000) (disch := first | omega | (simp only [sizeAlloc, sizeDrew, sizeSet, sizePut] <;> omega) | fail) only [GS, TT_eq, TTl, Nat.reduceAdd, Nat.reduceMul, Nat.reduceSub, Nat.reduceDiv, Nat.reduceMod, Nat.reducePow, Nat.reduceEqDiff, ↓reduceIte, reduceCtorEq, Int.reduceToNat, Int.reduceAdd, Int.reduceSub, Int.reduceMul]
    exact hR _ hM02
  simp only [if_true] at hR
  obtain ⟨-, -, hmm, -⟩ := hbi rfl
  have hmB := hmm
  unfold mbB at hmB
  rw [Bool.and_eq_true] at hmB
  have hda := fun {k : Nat} (hk : k < mbs.length) h => dig_at hk (o := org) hmB.1 h
  simp (maxSteps := 1000000) (disch := first | omega | (simp only [sizeAlloc, sizeDrew, sizeSet, sizePut] <;> omega) | fail) only [GS, TT_eq, TTl, Nat.reduceAdd, Nat.reduceMul, Nat.reduceSub, Nat.reduceDiv, Nat.reduceMod, Nat.reducePow, Nat.reduceEqDiff, ↓reduceIte, reduceCtorEq, Int.reduceToNat, Int.reduceAdd, Int.reduceSub, Int.reduceMul]
  refine hold_draw okT (rs := [.tmp 2, .tmp 3]) rfl [0, 1, 0, 4, 0, 16, 60, 127, 255, 511, 1023, 2047] [0, 1, 2, 3, 4, 5, 6, 7, 8, 9, 10, 11] (by kernel_rfl) (by kernel_rfl) ?_
  have hM23 := (Mod.refl [] w2).drewN 1
  generalize w2.drewN 1 = w3 at *
  have hA3 := hM23.get hA2 (by simp)
  have hM03 := hM02.trans hM23 (by simp)
  have c3 := fun o => cellOf (o := o) hA3
  simp (maxSteps := 1000000) (disch := first | omega | (simp only [sizeAlloc, sizeDrew, sizeSet, sizePut] <;> omega) | fail) only [GS, TT_eq, TTl, Nat.reduceAdd, Nat.reduceMul, Nat.reduceSub, Nat.reduceDiv, Nat.reduceMod, Nat.reducePow, Nat.reduceEqDiff, ↓reduceIte, reduceCtorEq, Int.reduceToNat, Int.reduceAdd, Int.reduceSub, Int.reduceMul, c3]
  refine ⟨fok74, pPlace_cps _ mbs org _ _ (by omega) (ha.mod hM03 (by simp)) (fun k w4 hk hko hM4 => .inl ⟨_, rfl, ?_⟩) (fun hno w4 hM4 => absurd hno (hno0 rfl))⟩
  have hA4 := hM4.get hA3 (by simp)
  have c4 := fun o => cellOf (o := o) hA4
  have hM04 := hM03.trans hM4 (by simp)
  first | refine hold_dops okT (rs := [.tmp 2, .tmp 3]) rfl ?_ | refine ⟨(by repeat' (first | exact c4 _ | apply And.intro)), hold_dops okT (rs := [.tmp 2, .tmp 3]) rfl ?_⟩
  obtain ⟨b1, o1, c1, e1, _, g1⟩ := (ha.mod hM04 (by simp)).at (by omega) (by omega)
  have hfl := fun j hj => flat_get mbC 2 mbC_len mbs k hk j hj
  rw [Value.slice.injEq] at e1
  obtain ⟨rfl, -, -⟩ := e1
  have hda2 := hda hk hko
  generalize mbs[k] = m at hfl hda2
  have d1 : w4.cell? ⟨b1, o1 + k * 2 + 1, none⟩ = some (.string ⟨m.2.toArray⟩) := by rw [← g1 (k * 2 + 1) _ (hfl 1 (by omega))]; rfl
  rw [hda2] at hR
  simp (maxSteps := 1000000) (disch := first | omega | (simp only [sizeAlloc, sizeDrew, sizeSet, sizePut] <;> omega) | fail) only [GS, TT_eq, TTl, Nat.reduceAdd, Nat.reduceMul, Nat.reduceSub, Nat.reduceDiv, Nat.reduceMod, Nat.reducePow, Nat.reduceEqDiff, ↓reduceIte, reduceCtorEq, Int.reduceToNat, Int.reduceAdd, Int.reduceSub, Int.reduceMul, c4, d1]
  exact hR _ hM04
/-- The tag of a ballot, in a suite of terms. -/
def tagS (x : Tx) (aud : Int) (mbs : List Mb) (org : Int) : List UInt8 × Int := if (bodyS x aud mbs org).2 = 0 then madeS [109] [(atomS (keyL 1 org aud)).1, (bodyS x aud mbs org).1] else ([], (bodyS x aud mbs org).2)
theorem body_is {x : Tx} {aud : Int} {mbs : List Mb} {org : Int} (h : (bodyS x aud mbs org).2 = 0) : balB x aud mbs org = true := by
  unfold bodyS at h
  split at h
  · assumption
  · simp at h
theorem body_len (x : Tx) (aud : Int) (mbs : List Mb) (org : Int) : (bodyS x aud mbs org).1.length ≤ 16384 := by
  unfold bodyS
  split
  · split
    · exact made_len _ _
    · simp
  · simp
theorem tag_len13 (x : Tx) (aud : Int) (mbs : List Mb) (org : Int) : (tagS x aud mbs org).1.length ≤ 16384 := by
  unfold tagS
  split
  · exact made_len _ _
  · simp
theorem atomS_len (s : List UInt8) : (atomS s).1.length ≤ 1000000 := by
  unfold atomS
  repeat' split
  · simp
  · rename_i h _
    have := numL_len (v := s.length) (by omega)
    simp
    omega
  · simp
set_option maxRecDepth 20000 in
set_option maxHeartbeats 8000000 in
theorem bTag_cps (s : Nat) (x : Tx) (aud : Int) (ms : Value) (mbs : List Mb) (org : Int) (w : World) (hl : mbs.length ≤ 1000000) (hd : ∀ m ∈ mbs, m.2.length ≤ maxLen) (ha : Rd w 2 ms mbs.length (mbs.flatMap mbC)) (hs : isSui w s) (hg : KG w) (R : Ending → World → Prop) (hR : ∀ w', Mod [] w w' → R (.returned (stV (tagS x aud mbs org))) w') :
    Calls Tryz.prog 11 #[.pointer (some ⟨s, 0, none⟩), balV x aud ms org] w R := by
  have hBd := fun w h => bBody_cps x aud ms mbs org w hl hd h
  have hbi := fun h => (bal_is (body_is (x := x) (aud := aud) (mbs := mbs) (org := org) h))
  have hbl := body_len x aud mbs org
  have os : ms.oneCell' = true := by obtain ⟨a, c, e⟩ := ha.slice; rw [e]; rfl
  unfold tagS at hR
  generalize bodyS x aud mbs org = D at *
  obtain ⟨dt, de⟩ := D
  obtain ⟨a, b, c⟩ := x
  unfold balV at hBd ⊢
  simp only at hBd hR hbi hbl ⊢
  refine calls_go 4000 okT Tryz.func11 rfl (rs := [.tmp 4, .tmp 5]) rfl Tryz.ntmps11 (args := [.pointer (some ⟨s, 0, none⟩), .agg #[.int .i64 a, .int .i64 b, .int .i64 c, .int .i64 aud, ms, .int .i64 org]]) ?_
  simp (maxSteps := 1000000) (disch := first | omega | (simp only [sizeAlloc, sizeDrew, sizeSet, sizePut] <;> omega) | fail) only [GS, TT_eq, TTl, Nat.reduceAdd, Nat.reduceMul, Nat.reduceSub, Nat.reduceDiv, Nat.reduceMod, Nat.reducePow, Nat.reduceEqDiff, ↓reduceIte, reduceCtorEq, Int.reduceToNat, Int.reduceAdd, Int.reduceSub, Int.reduceMul, os, cellsL_one os]
  generalize hW : w.alloc (.cells #[.int .i64 a, .int .i64 b, .int .i64 c, .int .i64 aud, ms, .int .i64 org] 26) = w1
  obtain ⟨hA, hM0⟩ := bx6 hW
  clear hW
  generalize hn : w.heap.size = n at *
  refine ⟨fok29, hBd _ (ha.mod hM0 (by simp)) _ fun w2 hM2 => .inl ⟨_, rfl, hold_ops okT (rs := [.tmp 4, .tmp 5]) rfl ?_⟩⟩
  have hA2 := hM2.get hA (by simp)
  have hM02 := hM0.trans hM2 (by simp)
  have c2 := fun o => cellOf (o := o) hA2
  unfold stV
  by_cases he : de = 0
  rotate_left
  · rw [if_neg he] at hR
    unfold stV at hR
    simp (maxSteps := 1000000) (disch := first | omega | (simp only [sizeAlloc, sizeDrew, sizeSet, sizePut] <;> omega) | fail) only [GS, TT_eq, TTl, Nat.reduceAdd, Nat.reduceMul, Nat.reduceSub, Nat.reduceDiv, Nat.reduceMod, Nat.reducePow, Nat.reduceEqDiff, ↓reduceIte, reduceCtorEq, Int.reduceToNat, Int.reduceAdd, Int.reduceSub, Int.reduceMul, he]
    exact hR _ hM02
  rw [if_pos he] at hR
  obtain ⟨-, hau, -, hog⟩ := hbi he
  subst he
  simp (maxSteps := 1000000) (disch := first | omega | (simp only [sizeAlloc, sizeDrew, sizeSet, sizePut] <;> omega) | fail) only [GS, TT_eq, TTl, Nat.reduceAdd, Nat.reduceMul, Nat.reduceSub, Nat.reduceDiv, Nat.reduceMod, Nat.reducePow, Nat.reduceEqDiff, ↓reduceIte, reduceCtorEq, Int.reduceToNat, Int.reduceAdd, Int.reduceSub, Int.reduceMul, c2]
  refine ⟨fok40, kTag_cps org aud _ _ (hg.mod hM02 (by simp)) fun w3 hM3 => .inl ⟨_, rfl, hold_ops okT (rs := [.tmp 4, .tmp 5]) rfl ?_⟩⟩
  have hM03 := hM02.trans hM3 (by simp)
  have hkl : (keyL 1 org aud).length ≤ maxLen := by unfold keyL maxLen; simp
  unfold keyA
  rw [if_pos (show pairOk org aud from ⟨⟨hog.1, hog.2⟩, hau.1, hau.2⟩)]
  generalize keyL 1 org aud = kn at *
  simp (maxSteps := 1000000) (disch := first | omega | (simp only [sizeAlloc, sizeDrew, sizeSet, sizePut] <;> omega) | fail) only [GS, TT_eq, TTl, Nat.reduceAdd, Nat.reduceMul, Nat.reduceSub, Nat.reduceDiv, Nat.reduceMod, Nat.reducePow, Nat.reduceEqDiff, ↓reduceIte, reduceCtorEq, Int.reduceToNat, Int.reduceAdd, Int.reduceSub, Int.reduceMul]
  refine ⟨fok41, sKey_cps s kn hkl _ (hs.mod hM03) _ fun w4 hM4 => .inl ⟨_, rfl, hold_ops okT (rs := [.tmp 4, .tmp 5]) rfl ?_⟩⟩
  have hM04 := hM03.trans hM4 (by simp)
  have hal := atomS_len kn
  generalize atomS kn = Ak at *
  obtain ⟨at_, ae⟩ := Ak
  unfold stV
  simp only at hal hR
  simp (maxSteps := 1000000) (disch := first | omega | (simp only [sizeAlloc, sizeDrew, sizeSet, sizePut] <;> omega) | fail) only [GS, TT_eq, TTl, Nat.reduceAdd, Nat.reduceMul, Nat.reduceSub, Nat.reduceDiv, Nat.reduceMod, Nat.reducePow, Nat.reduceEqDiff, ↓reduceIte, reduceCtorEq, Int.reduceToNat, Int.reduceAdd, Int.reduceSub, Int.reduceMul]
  refine ⟨fok42, sMac_cps s at_ dt hal (by omega) _ (hs.mod hM04) _ fun w5 hM5 => .inl ⟨_, rfl, hold_ops okT (rs := [.tmp 4, .tmp 5]) rfl ?_⟩⟩
  have hM05 := hM04.trans hM5 (by simp)
  unfold stV at hR ⊢
  simp (maxSteps := 1000000) (disch := first | omega | (simp only [sizeAlloc, sizeDrew, sizeSet, sizePut] <;> omega) | fail) only [GS, TT_eq, TTl, Nat.reduceAdd, Nat.reduceMul, Nat.reduceSub, Nat.reduceDiv, Nat.reduceMod, Nat.reducePow, Nat.reduceEqDiff, ↓reduceIte, reduceCtorEq, Int.reduceToNat, Int.reduceAdd, Int.reduceSub, Int.reduceMul]
  exact hR _ hM05
set_option maxRecDepth 20000 in
set_option maxHeartbeats 8000000 in
theorem bFits_cps (s : Nat) (x : Tx) (aud : Int) (ms : Value) (mbs : List Mb) (org : Int) (t : List UInt8) (w : World) (hl : mbs.length ≤ 1000000) (hd : ∀ m ∈ mbs, m.2.length ≤ maxLen) (ha : Rd w 2 ms mbs.length (mbs.flatMap mbC)) (hs : isSui w s) (hg : KG w) (R : Ending → World → Prop) (hR : ∀ w', Mod [] w w' → R (.returned (.bool (decide ((tagS x aud mbs org).2 = 0) && decide ((tagS x aud mbs org).1 = t)))) w') :
    Calls Tryz.prog 13 #[.pointer (some ⟨s, 0, none⟩), balV x aud ms org, .string ⟨t.toArray⟩] w R := by
  have hTg := fun w h => bTag_cps s x aud ms mbs org w hl hd h
  have htl := tag_len13 x aud mbs org
  have os : ms.oneCell' = true := by obtain ⟨a, c, e⟩ := ha.slice; rw [e]; rfl
  generalize tagS x aud mbs org = D at *
  obtain ⟨dt, de⟩ := D
  obtain ⟨a, b, c⟩ := x
  unfold balV at hTg ⊢
  unfold stV at hTg
  simp only at hTg hR htl ⊢
  refine calls_go 4000 okT Tryz.func13 rfl (rs := [.tmp 6]) rfl Tryz.ntmps13 (args := [.pointer (some ⟨s, 0, none⟩), .agg #[.int .i64 a, .int .i64 b, .int .i64 c, .int .i64 aud, ms, .int .i64 org], .string ⟨t.toArray⟩]) ?_
  simp (maxSteps := 1000000) (disch := first | omega | (simp only [sizeAlloc, sizeDrew, sizeSet, sizePut] <;> omega) | fail) only [GS, TT_eq, TTl, Nat.reduceAdd, Nat.reduceMul, Nat.reduceSub, Nat.reduceDiv, Nat.reduceMod, Nat.reducePow, Nat.reduceEqDiff, ↓reduceIte, reduceCtorEq, Int.reduceToNat, Int.reduceAdd, Int.reduceSub, Int.reduceMul, os, cellsL_one os]
  generalize hW : w.alloc (.cells #[.int .i64 a, .int .i64 b, .int .i64 c, .int .i64 aud, ms, .int .i64 org] 26) = w1
  obtain ⟨hA, hM0⟩ := bx6 hW
  clear hW
  refine ⟨fok11, hTg _ (ha.mod hM0 (by simp)) (hs.mod hM0) (hg.mod hM0 (by simp)) _ fun w2 hM2 => .inl ⟨_, rfl, hold_ops okT (rs := [.tmp 6]) rfl ?_⟩⟩
  have hM02 := hM0.trans hM2 (by simp)
  by_cases he : de = 0
  rotate_left
  · rw [decide_eq_false he, Bool.false_and] at hR
    simp (maxSteps := 1000000) (disch := first | omega | (simp only [sizeAlloc, sizeDrew, sizeSet, sizePut] <;> omega) | fail) only [GS, TT_eq, TTl, Nat.reduceAdd, Nat.reduceMul, Nat.reduceSub, Nat.reduceDiv, Nat.reduceMod, Nat.reducePow, Nat.reduceEqDiff, ↓reduceIte, reduceCtorEq, Int.reduceToNat, Int.reduceAdd, Int.reduceSub, Int.reduceMul, he]
    exact hR _ hM02
  rw [decide_eq_true he, Bool.true_and] at hR
  subst he
  simp (maxSteps := 1000000) (disch := first | omega | (simp only [sizeAlloc, sizeDrew, sizeSet, sizePut] <;> omega) | fail) only [GS, TT_eq, TTl, Nat.reduceAdd, Nat.reduceMul, Nat.reduceSub, Nat.reduceDiv, Nat.reduceMod, Nat.reducePow, Nat.reduceEqDiff, ↓reduceIte, reduceCtorEq, Int.reduceToNat, Int.reduceAdd, Int.reduceSub, Int.reduceMul]
  refine ⟨fok45, sSame_cps s dt t (by unfold maxLen; omega) _ _ fun w3 hM3 => .inl ⟨_, rfl, hold_ops okT (rs := [.tmp 6]) rfl ?_⟩⟩
  simp (maxSteps := 1000000) (disch := first | omega | (simp only [sizeAlloc, sizeDrew, sizeSet, sizePut] <;> omega) | fail) only [GS, TT_eq, TTl, Nat.reduceAdd, Nat.reduceMul, Nat.reduceSub, Nat.reduceDiv, Nat.reduceMod, Nat.reducePow, Nat.reduceEqDiff, ↓reduceIte, reduceCtorEq, Int.reduceToNat, Int.reduceAdd, Int.reduceSub, Int.reduceMul]
  exact hR _ (hM02.trans hM3 (by simp))
end Go.Proofs.YthnlmmkhehphiaaGreatDoor
