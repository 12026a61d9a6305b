/-
  verify.New (walks). (*verify.Verifier).wrong (walk). receipt.Names (walk). receipt.Ballots: what the ballots' members are (walk; as in Rcq6). chirographlaw13: one, alive (walks). (*verify.Verifier).Verify (walk). (*verify.Verifier).Shows, over a suite of either kind (walk). chirographlaw27.Signed (walk).
-/
import Derived.Test.YtdflchgfhmjhbaaGreatDoorQvZ10
import Derived.Test.YtdflchgfhmjhbaaGreatDoorQvZ7
set_option linter.unusedSimpArgs false
set_option linter.unusedVariables false
namespace Go.Proofs.YtdflchgfhmjhbaaGreatDoor
set_option maxHeartbeats 64000000
set_option maxRecDepth 20000
open Go Go.Wk Go.RowKit
attribute [local irreducible] go Hold
open Go.Lib
theorem vBad_cps (kd : Nat) (hkd : kd = 1 ∨ kd = 2) (b : Nat) (s : List UInt8) (hs : s.length ≤ maxLen) (hk : kindS s ≠ 0 ∧ (kd = 2 → kindS s = 1)) (w : World) (hb : w.heap[b]? = some (.cells #[.int .u8 kd] 5 (0, 0))) (R : Ending → World → Prop) (hR : ∀ w', Mod [] w w' → R (.returned (.bool false)) w') : Calls Tryz.prog 31 (#[.string ⟨s.toArray⟩] ++ #[.pointer (some ⟨b, 0, none⟩)]) w R := by
  refine calls_go 4000 okT Tryz.func31 rfl (rs := [.tmp 3]) rfl Tryz.ntmps31 (args := [.string ⟨s.toArray⟩, .pointer (some ⟨b, 0, none⟩)]) ?_
  simp (maxSteps := 1000000) (disch := first | omega | (simp only [sizeAlloc, sizeDrew, sizeSet, sizePut] <;> omega) | fail) only [GS, TT_eq, TTl, Nat.reduceAdd, Nat.reduceMul, Nat.reduceSub, Nat.reduceDiv, Nat.reduceMod, Nat.reducePow, Nat.reduceEqDiff, ↓reduceIte, reduceCtorEq, Int.reduceToNat, Int.reduceAdd, Int.reduceSub, Int.reduceMul]
  refine ⟨fok32, tKind_cps s hs _ _ fun w1 hM => .inl ⟨_, rfl, hold_ops okT (rs := [.tmp 3]) rfl ?_⟩⟩
  have c1 := fun o => cellOf (o := o) (hM.get hb (by simp))
  obtain ⟨hk1, hk2⟩ := hk
  have hk0 : 0 < kindS s := by omega
  rcases hkd with rfl | rfl
  · simp (maxSteps := 1000000) (disch := first | omega | (simp only [sizeAlloc, sizeDrew, sizeSet, sizePut] <;> omega) | fail) only [GS, TT_eq, TTl, Nat.reduceAdd, Nat.reduceMul, Nat.reduceSub, Nat.reduceDiv, Nat.reduceMod, Nat.reducePow, Nat.reduceEqDiff, ↓reduceIte, reduceCtorEq, Int.reduceToNat, Int.reduceAdd, Int.reduceSub, Int.reduceMul, c1]
    exact hR _ hM
  · rw [hk2 rfl]
    simp (maxSteps := 1000000) (disch := first | omega | (simp only [sizeAlloc, sizeDrew, sizeSet, sizePut] <;> omega) | fail) only [GS, TT_eq, TTl, Nat.reduceAdd, Nat.reduceMul, Nat.reduceSub, Nat.reduceDiv, Nat.reduceMod, Nat.reducePow, Nat.reduceEqDiff, ↓reduceIte, reduceCtorEq, Int.reduceToNat, Int.reduceAdd, Int.reduceSub, Int.reduceMul, c1]
    exact hR _ hM
theorem vIdx_cps (kd : Nat) (hkd : kd = 1 ∨ kd = 2) (b : Nat) (sa : Value) (xs : List (List UInt8)) (w : World) (hb : w.heap[b]? = some (.cells #[.int .u8 kd] 5 (0, 0))) (R : Ending → World → Prop) (hx : xs.length ≤ 9223372036854775807) (hz : ∀ s ∈ xs, s.length ≤ maxLen ∧ kindS s ≠ 0 ∧ (kd = 2 → kindS s = 1)) (ha : Rd w 1 sa xs.length (xs.map strV))
    (hR : ∀ w', Mod [] w w' → R (.returned (.int .i64 (-1))) w') : Calls Tryz.prog 70 #[sa, .func (.func 31) #[] #[.pointer (some ⟨b, 0, none⟩)]] w R := by
  obtain ⟨a, ca, rfl⟩ := ha.slice
  refine calls_go 4000 okT Tryz.func70 rfl (rs := [.tmp 4]) rfl Tryz.ntmps70 (args := [.slice a xs.length ca, .func (.func 31) #[] #[.pointer (some ⟨b, 0, none⟩)]]) ?_
  simp (maxSteps := 1000000) (disch := first | omega | (simp only [sizeAlloc, sizeDrew, sizeSet, sizePut] <;> omega) | fail) only [GS, TT_eq, TTl, Nat.reduceAdd, Nat.reduceMul, Nat.reduceSub, Nat.reduceDiv, Nat.reduceMod, Nat.reducePow, Nat.reduceEqDiff, ↓reduceIte, reduceCtorEq, Int.reduceToNat, Int.reduceAdd, Int.reduceSub, Int.reduceMul]
  refine hold_loop okT (rs := [.tmp 4]) rfl [8] [4, 5, 9, 10, 11, 12, 13, 14, 15, 16, 17, 18] (fun vs w' => ∃ k : Nat, k ≤ xs.length ∧ vs = [.int .i64 k] ∧ Mod [] w w') (fun vs _ => match vs with | [.int _ i] => xs.length - i.toNat | _ => 0) (by kernel_rfl) ⟨0, by omega, rfl, Mod.refl _ _⟩ ?_
  rintro vs w1 J ⟨k, hk, rfl, hM⟩
  by_cases hlt : k < xs.length
  · obtain ⟨b1, o1, c1, e1, _, g1⟩ := (ha.mod hM (by simp)).at (by omega) (by omega)
    have f1 := g1 k _ (getS hlt)
    rw [Value.slice.injEq] at e1
    obtain ⟨rfl, -, -⟩ := e1
    have hmem := hz _ (List.getElem_mem hlt)
    generalize xs[k] = t at f1 hmem
    simp (maxSteps := 1000000) (disch := first | omega | (simp only [sizeAlloc, sizeDrew, sizeSet, sizePut] <;> omega) | fail) only [GS, TT_eq, TTl, Nat.reduceAdd, Nat.reduceMul, Nat.reduceSub, Nat.reduceDiv, Nat.reduceMod, Nat.reducePow, Nat.reduceEqDiff, ↓reduceIte, reduceCtorEq, Int.reduceToNat, Int.reduceAdd, Int.reduceSub, Int.reduceMul, f1]
    refine ⟨fok31, vBad_cps kd hkd b t hmem.1 hmem.2 _ (hM.get hb (by simp)) _ fun w2 hM2 => .inl ⟨_, rfl, hold_ops okT (rs := [.tmp 4]) rfl ?_⟩⟩
    simp (maxSteps := 1000000) (disch := first | omega | (simp only [sizeAlloc, sizeDrew, sizeSet, sizePut] <;> omega) | fail) only [GS, TT_eq, TTl, Nat.reduceAdd, Nat.reduceMul, Nat.reduceSub, Nat.reduceDiv, Nat.reduceMod, Nat.reducePow, Nat.reduceEqDiff, ↓reduceIte, reduceCtorEq, Int.reduceToNat, Int.reduceAdd, Int.reduceSub, Int.reduceMul]
    exact ⟨⟨k + 1, by omega, rfl, hM.trans hM2 (by simp)⟩, by omega⟩
  · have e : k = xs.length := by omega
    subst e
    simp (maxSteps := 1000000) (disch := first | omega | (simp only [sizeAlloc, sizeDrew, sizeSet, sizePut] <;> omega) | fail) only [GS, TT_eq, TTl, Nat.reduceAdd, Nat.reduceMul, Nat.reduceSub, Nat.reduceDiv, Nat.reduceMod, Nat.reducePow, Nat.reduceEqDiff, ↓reduceIte, reduceCtorEq, Int.reduceToNat, Int.reduceAdd, Int.reduceSub, Int.reduceMul]
    exact hR _ hM
theorem vCont_cps (kd : Nat) (hkd : kd = 1 ∨ kd = 2) (b : Nat) (sa : Value) (xs : List (List UInt8)) (w : World) (hb : w.heap[b]? = some (.cells #[.int .u8 kd] 5 (0, 0))) (R : Ending → World → Prop) (hx : xs.length ≤ 9223372036854775807) (hz : ∀ s ∈ xs, s.length ≤ maxLen ∧ kindS s ≠ 0 ∧ (kd = 2 → kindS s = 1)) (ha : Rd w 1 sa xs.length (xs.map strV))
    (hR : ∀ w', Mod [] w w' → R (.returned (.bool false)) w') : Calls Tryz.prog 33 #[sa, .func (.func 31) #[] #[.pointer (some ⟨b, 0, none⟩)]] w R := by
  refine calls_go 4000 okT Tryz.func33 rfl (rs := [.tmp 4]) rfl Tryz.ntmps33 (args := [sa, .func (.func 31) #[] #[.pointer (some ⟨b, 0, none⟩)]]) ?_
  simp (maxSteps := 1000000) (disch := first | omega | (simp only [sizeAlloc, sizeDrew, sizeSet, sizePut] <;> omega) | fail) only [GS, TT_eq, TTl, Nat.reduceAdd, Nat.reduceMul, Nat.reduceSub, Nat.reduceDiv, Nat.reduceMod, Nat.reducePow, Nat.reduceEqDiff, ↓reduceIte, reduceCtorEq, Int.reduceToNat, Int.reduceAdd, Int.reduceSub, Int.reduceMul]
  refine ⟨fok70, vIdx_cps kd hkd b sa xs _ hb _ hx hz ha fun w1 hM => .inl ⟨_, rfl, hold_ops okT (rs := [.tmp 4]) rfl ?_⟩⟩
  simp (maxSteps := 1000000) (disch := first | omega | (simp only [sizeAlloc, sizeDrew, sizeSet, sizePut] <;> omega) | fail) only [GS, TT_eq, TTl, Nat.reduceAdd, Nat.reduceMul, Nat.reduceSub, Nat.reduceDiv, Nat.reduceMod, Nat.reducePow, Nat.reduceEqDiff, ↓reduceIte, reduceCtorEq, Int.reduceToNat, Int.reduceAdd, Int.reduceSub, Int.reduceMul]
  exact hR _ hM
theorem vClone_cps (sm : Value) (l : List Tm) (w : World) (hl : l.length ≤ 1000000) (ha : Rd w 1 sm l.length (l.map strV)) (R : Ending → World → Prop) (hR : ∀ sv w', w'.ownsRow w.heap.size 9 1 sv l.length (l.map strV) → Mod [] w w' → R (.returned sv) w') : Calls Tryz.prog 34 #[sm] w R := by
  obtain ⟨a, c, rfl⟩ := ha.slice
  refine calls_go 4000 okT Tryz.func34 rfl (rs := [.tmp 2]) rfl Tryz.ntmps34 (args := [.slice a l.length c]) ?_
  cases a with
  | none =>
    simp (maxSteps := 1000000) (disch := first | omega | (simp only [sizeAlloc, sizeDrew, sizeSet, sizePut] <;> omega) | fail) only [GS, TT_eq, TTl, Nat.reduceAdd, Nat.reduceMul, Nat.reduceSub, Nat.reduceDiv, Nat.reduceMod, Nat.reducePow, Nat.reduceEqDiff, ↓reduceIte, reduceCtorEq, Int.reduceToNat, Int.reduceAdd, Int.reduceSub, Int.reduceMul]
    have h0 : l.length = 0 := by
      apply Classical.byContradiction
      intro h
      obtain ⟨b, o, cap, e, _⟩ := ha.at (by omega) (by omega)
      simp at e
    rw [List.length_eq_zero_iff.1 h0] at hR
    exact hR _ _ (World.ownsRow_nil _ _ _ _) (Mod.refl _ _)
  | some ad =>
    simp (maxSteps := 1000000) (disch := first | omega | (simp only [sizeAlloc, sizeDrew, sizeSet, sizePut] <;> omega) | fail) only [GS, TT_eq, TTl, Nat.reduceAdd, Nat.reduceMul, Nat.reduceSub, Nat.reduceDiv, Nat.reduceMod, Nat.reducePow, Nat.reduceEqDiff, ↓reduceIte, reduceCtorEq, Int.reduceToNat, Int.reduceAdd, Int.reduceSub, Int.reduceMul]
    have hz := zeroRow (w := w) (e := 9) (base := w.heap.size) (size := 1) (Nat.le_refl _)
    have hM0 := (Mod.refl [] w).alloc (.cells #[] 9)
    have ha1 := ha.mod hM0 (by simp)
    refine hold_appendR okT rfl rfl rfl rfl (by decide) w.heap.size hz rfl rfl ha1 (by intro u hu; obtain ⟨z, _, rfl⟩ := List.mem_map.1 hu; rfl) (by simp only; omega) (by unfold maxLen; omega) (by rw [sizeAlloc]; omega) fun sv w2 hown hM2 => hold_ops okT (rs := [.tmp 2]) rfl ?_
    have hsv := ownsRow_one hown
    simp (maxSteps := 1000000) (disch := first | omega | (simp only [sizeAlloc, sizeDrew, sizeSet, sizePut] <;> omega) | fail) only [GS, TT_eq, TTl, Nat.reduceAdd, Nat.reduceMul, Nat.reduceSub, Nat.reduceDiv, Nat.reduceMod, Nat.reducePow, Nat.reduceEqDiff, ↓reduceIte, reduceCtorEq, Int.reduceToNat, Int.reduceAdd, Int.reduceSub, Int.reduceMul, cellsL_one hsv, hsv]
    rw [Nat.zero_add, List.nil_append] at hown
    exact hR sv _ hown (hM0.trans hM2 (fun y hy => .inr (by simp [Value.ownBlock] at hy; omega)))
/-- A verifier of a suite of terms. -/
def VerG (w : World) (vp : Nat) (σ : Sut) (aud : Int) (ks : List Tm) : Prop := ∃ (s : Nat) (ka : Value), w.heap[vp]? = some (.cells #[.pointer (some ⟨s, 0, none⟩), .int .i64 aud, ka] 97 (0, 0)) ∧ isS w s σ ∧ Rd w 1 ka ks.length (ks.map strV)
theorem VerG.mod {w w' : World} {vp : Nat} {σ : Sut} {aud : Int} {ks : List Tm} (h : VerG w vp σ aud ks) (hM : Mod [] w w') : VerG w' vp σ aud ks := by
  obtain ⟨s, ka, h1, h2, h3⟩ := h
  exact ⟨s, ka, hM.get h1 (by simp), h2.mod hM, h3.mod hM (by simp)⟩
theorem vNewG_cps (kd : Nat) (hkd : kd = 1 ∨ kd = 2) (σ : Sut) (hσ : sutN kd [110, 111, 110, 101] = some σ) (aud : Int) (ks : List Tm) (ka : Value) (w : World) (ha : 0 ≤ aud ∧ aud < 8) (hl : 1 ≤ ks.length ∧ ks.length ≤ 8) (hk : ∀ s ∈ ks, s.length ≤ maxLen ∧ kindS s ≠ 0 ∧ (kd = 2 → kindS s = 1)) (hrd : Rd w 1 ka ks.length (ks.map strV)) (R : Ending → World → Prop)
    (hR : ∀ vp w', VerG w' vp σ aud ks → Mod [] w w' → R (.returned (.tuple #[.pointer (some ⟨vp, 0, none⟩), .int .i64 0])) w') : Calls Tryz.prog 11 #[.int .u8 kd, .int .i64 aud, ka] w R := by
  obtain ⟨a, c, rfl⟩ := hrd.slice
  refine calls_go 4000 okT Tryz.func11 rfl (rs := [.tmp 6, .tmp 7]) rfl Tryz.ntmps11 (args := [.int .u8 kd, .int .i64 aud, .slice a ks.length c]) ?_
  simp (maxSteps := 1000000) (disch := first | omega | (simp only [sizeAlloc, sizeDrew, sizeSet, sizePut] <;> omega) | fail) only [GS, TT_eq, TTl, Nat.reduceAdd, Nat.reduceMul, Nat.reduceSub, Nat.reduceDiv, Nat.reduceMod, Nat.reducePow, Nat.reduceEqDiff, ↓reduceIte, reduceCtorEq, Int.reduceToNat, Int.reduceAdd, Int.reduceSub, Int.reduceMul]
  have hb := heapNew (w := w) (o := .cells #[.int .u8 kd] 5)
  have hM0 := (Mod.refl [] w).alloc (.cells #[.int .u8 kd] 5)
  generalize w.alloc (.cells #[.int .u8 kd] 5) = w0 at hb hM0 ⊢
  refine ⟨fok6, gNew_cps kd (by omega) [110, 111, 110, 101] (by unfold maxLen; simp) _ _ (fun h => by rw [hσ] at h; cases h) (fun σ' w1 hσ' hs hM1 => .inl ⟨_, rfl, hold_ops okT (rs := [.tmp 6, .tmp 7]) rfl ?_⟩)⟩
  obtain rfl : σ' = σ := by rw [hσ] at hσ'; cases hσ'; rfl
  generalize w0.heap.size = s at hs ⊢
  have hb1 := hM1.get hb (by simp)
  have hM01 := hM0.trans hM1 (by simp)
  simp (maxSteps := 1000000) (disch := first | omega | (simp only [sizeAlloc, sizeDrew, sizeSet, sizePut] <;> omega) | fail) only [GS, TT_eq, TTl, Nat.reduceAdd, Nat.reduceMul, Nat.reduceSub, Nat.reduceDiv, Nat.reduceMod, Nat.reducePow, Nat.reduceEqDiff, ↓reduceIte, reduceCtorEq, Int.reduceToNat, Int.reduceAdd, Int.reduceSub, Int.reduceMul]
  refine ⟨fok33, vCont_cps kd hkd w.heap.size _ ks _ hb1 _ (by omega) hk (hrd.mod hM01 (by simp)) fun w2 hM2 => .inl ⟨_, rfl, hold_ops okT (rs := [.tmp 6, .tmp 7]) rfl ?_⟩⟩
  have hM02 := hM01.trans hM2 (by simp)
  have hs2 := hs.mod hM2
  simp (maxSteps := 1000000) (disch := first | omega | (simp only [sizeAlloc, sizeDrew, sizeSet, sizePut] <;> omega) | fail) only [GS, TT_eq, TTl, Nat.reduceAdd, Nat.reduceMul, Nat.reduceSub, Nat.reduceDiv, Nat.reduceMod, Nat.reducePow, Nat.reduceEqDiff, ↓reduceIte, reduceCtorEq, Int.reduceToNat, Int.reduceAdd, Int.reduceSub, Int.reduceMul]
  refine ⟨fok34, vClone_cps _ ks _ (by omega) (hrd.mod hM02 (by simp)) _ fun sv w3 hown hM3 => .inl ⟨_, rfl, hold_ops okT (rs := [.tmp 6, .tmp 7]) rfl ?_⟩⟩
  have hM03 := hM02.trans hM3 (by simp)
  have hs3 := hs2.mod hM3
  have hcl := ownsRow_one hown
  have hrd3 := Rd.own hown
  simp (maxSteps := 1000000) (disch := first | omega | (simp only [sizeAlloc, sizeDrew, sizeSet, sizePut] <;> omega) | fail) only [GS, TT_eq, TTl, Nat.reduceAdd, Nat.reduceMul, Nat.reduceSub, Nat.reduceDiv, Nat.reduceMod, Nat.reducePow, Nat.reduceEqDiff, ↓reduceIte, reduceCtorEq, Int.reduceToNat, Int.reduceAdd, Int.reduceSub, Int.reduceMul, cellsL_one hcl, hcl]
  have hM34 := (Mod.refl [] w3).alloc (.cells #[.pointer (some ⟨s, 0, none⟩), .int .i64 aud, sv] 97)
  exact hR _ _ ⟨s, sv, heapNew, hs3.mod hM34, hrd3.mod hM34 (by simp)⟩ (hM03.trans hM34 (by simp))
theorem vWrongG_cps (kt : List Int) (σ : Sut) (vp : Nat) (au0 : Int) (ks : List Tm) (x : Tx) (aud : Int) (ms : Value) (mbs : List Mb) (o : Int) (tag : Tm) (w : World) (hv : VerG w vp σ au0 ks) (hK : KTab w kt) (hkl : ks.length ≤ 1000000) (hks : ∀ k ∈ ks, k.length ≤ 1000000) (ho : 0 ≤ o) (hl : mbs.length ≤ 1000000) (hd : ∀ m ∈ mbs, m.2.length ≤ maxLen) (ha : Rd w 2 ms mbs.length (mbs.flatMap mbC)) (R : Ending → World → Prop)
    (hR : ∀ w', Mod [] w w' → R (.returned (.int .i64 (wrgG kt σ ks x aud mbs o tag))) w') : Calls Tryz.prog 47 #[.pointer (some ⟨vp, 0, none⟩), balV x aud ms o, .string ⟨tag.toArray⟩] w R := by
  obtain ⟨s, ka, hB, hs, hrd⟩ := hv
  have hBd := fun w h => bBody_cps x aud ms mbs o w hl hd h
  have hbl := body_len x aud mbs o
  unfold wrgG at hR
  generalize bodyS x aud mbs o = D at *
  obtain ⟨dt, de⟩ := D
  obtain ⟨a, b, c⟩ := x
  obtain ⟨pm, cm, rfl⟩ := ha.slice
  obtain ⟨pk, ck, rfl⟩ := hrd.slice
  unfold balV at hBd ⊢
  simp only at hBd hbl hR ⊢
  refine calls_go 4000 okT Tryz.func47 rfl (rs := [.tmp 6]) rfl Tryz.ntmps47 (args := [.pointer (some ⟨vp, 0, none⟩), .agg #[.int .i64 a, .int .i64 b, .int .i64 c, .int .i64 aud, .slice pm mbs.length cm, .int .i64 o], .string ⟨tag.toArray⟩]) ?_
  simp (maxSteps := 1000000) (disch := first | omega | (simp only [sizeAlloc, sizeDrew, sizeSet, sizePut] <;> omega) | fail) only [GS, TT_eq, TTl, Nat.reduceAdd, Nat.reduceMul, Nat.reduceSub, Nat.reduceDiv, Nat.reduceMod, Nat.reducePow, Nat.reduceEqDiff, ↓reduceIte, reduceCtorEq, Int.reduceToNat, Int.reduceAdd, Int.reduceSub, Int.reduceMul]
  generalize hW : w.alloc (.cells #[.int .i64 a, .int .i64 b, .int .i64 c, .int .i64 aud, .slice pm mbs.length cm, .int .i64 o] 45) = w1
  obtain ⟨hA, hM0⟩ := bx6 hW
  clear hW
  generalize hn : w.heap.size = n at *
  have hB1 := hM0.get hB (by simp)
  have cv := fun o => cellOf (o := o) hB1
  have ca := fun o => cellOf (o := o) hA
  by_cases hlo : (ks.length : Int) ≤ o
  · rw [if_pos hlo] at hR
    simp (maxSteps := 1000000) (disch := first | omega | (simp only [sizeAlloc, sizeDrew, sizeSet, sizePut] <;> omega) | fail) only [GS, TT_eq, TTl, Nat.reduceAdd, Nat.reduceMul, Nat.reduceSub, Nat.reduceDiv, Nat.reduceMod, Nat.reducePow, Nat.reduceEqDiff, ↓reduceIte, reduceCtorEq, Int.reduceToNat, Int.reduceAdd, Int.reduceSub, Int.reduceMul, cv, ca]
    refine ⟨by kernel_rfl, fun m => ?_⟩
    exact hR _ (hM0.drewN m)
  rw [if_neg hlo] at hR
  simp (maxSteps := 1000000) (disch := first | omega | (simp only [sizeAlloc, sizeDrew, sizeSet, sizePut] <;> omega) | fail) only [GS, TT_eq, TTl, Nat.reduceAdd, Nat.reduceMul, Nat.reduceSub, Nat.reduceDiv, Nat.reduceMod, Nat.reducePow, Nat.reduceEqDiff, ↓reduceIte, reduceCtorEq, Int.reduceToNat, Int.reduceAdd, Int.reduceSub, Int.reduceMul, cv, ca]
  refine ⟨by kernel_rfl, fun m => ?_⟩
  have hM12 := (Mod.refl [] w1).drewN m
  generalize w1.drewN m = w2 at *
  have hA2 := hM12.get hA (by simp)
  have hB2 := hM12.get hB1 (by simp)
  have hM02 := hM0.trans hM12 (by simp)
  have ca2 := fun o => cellOf (o := o) hA2
  refine ⟨fok64, hBd _ (ha.mod hM02 (by simp)) _ fun w3 hM3 => .inl ⟨_, rfl, hold_ops okT (rs := [.tmp 6]) rfl ?_⟩⟩
  have hA3 := hM3.get hA2 (by simp)
  have hB3 := hM3.get hB2 (by simp)
  have hM03 := hM02.trans hM3 (by simp)
  unfold stV
  by_cases he : de = 0
  rotate_left
  · rw [if_pos he] at hR
    simp (maxSteps := 1000000) (disch := first | omega | (simp only [sizeAlloc, sizeDrew, sizeSet, sizePut] <;> omega) | fail) only [GS, TT_eq, TTl, Nat.reduceAdd, Nat.reduceMul, Nat.reduceSub, Nat.reduceDiv, Nat.reduceMod, Nat.reducePow, Nat.reduceEqDiff, ↓reduceIte, reduceCtorEq, Int.reduceToNat, Int.reduceAdd, Int.reduceSub, Int.reduceMul, he]
    exact hR _ hM03
  rw [if_neg (fun h => h he)] at hR
  subst he
  have hlt : o.toNat < ks.length := by omega
  obtain ⟨b1, o1, c1, e1, _, g1⟩ := (hrd.mod hM03 (by simp)).at (by omega) (by omega)
  have f1 : w3.cell? ⟨b1, o1 + o.toNat, none⟩ = some (.string ⟨(ks[o.toNat]).toArray⟩) := g1 o.toNat _ (getS hlt)
  rw [Value.slice.injEq] at e1
  obtain ⟨rfl, -, -⟩ := e1
  have hk1 := hks _ (List.getElem_mem hlt)
  rw [List.getD_eq_getElem?_getD, List.getElem?_eq_getElem hlt, Option.getD_some] at hR
  generalize ks[o.toNat] = kk at *
  have hto : ((o.toNat : Nat) : Int) = o := by omega
  have ca3 := fun o => cellOf (o := o) hA3
  have cv3 := fun o => cellOf (o := o) hB3
  simp (maxSteps := 1000000) (disch := first | omega | (simp only [sizeAlloc, sizeDrew, sizeSet, sizePut] <;> omega) | fail) only [GS, TT_eq, TTl, Nat.reduceAdd, Nat.reduceMul, Nat.reduceSub, Nat.reduceDiv, Nat.reduceMod, Nat.reducePow, Nat.reduceEqDiff, ↓reduceIte, reduceCtorEq, Int.reduceToNat, Int.reduceAdd, Int.reduceSub, Int.reduceMul]
  refine hold_draw okT (rs := [.tmp 6]) rfl [0, 1, 3, 7, 15, 0, 32, 96, 224, 0, 512, 2016, 4064, 0, 16383, 32767, 65535, 65535, 131071, 524287] [0, 1, 2, 3, 4, 5, 6, 7, 8, 9, 10, 11, 12, 13, 14, 15, 16, 17, 18, 19] (by kernel_rfl) (by kernel_rfl) ?_
  have hM34 := (Mod.refl [] w3).drewN 1
  generalize w3.drewN 1 = w4 at *
  have hA4 := hM34.get hA3 (by simp)
  have hB4 := hM34.get hB3 (by simp)
  have hM04 := hM03.trans hM34 (by simp)
  have f4 : w4.cell? ⟨b1, o1 + o.toNat, none⟩ = some (.string ⟨kk.toArray⟩) := cellMS f1 hM34 (by simp)
  have ca4 := fun o => cellOf (o := o) hA4
  have cv4 := fun o => cellOf (o := o) hB4
  simp (maxSteps := 1000000) (disch := first | omega | (simp only [sizeAlloc, sizeDrew, sizeSet, sizePut] <;> omega) | fail) only [GS, TT_eq, TTl, Nat.reduceAdd, Nat.reduceMul, Nat.reduceSub, Nat.reduceDiv, Nat.reduceMod, Nat.reducePow, Nat.reduceEqDiff, ↓reduceIte, reduceCtorEq, Int.reduceToNat, Int.reduceAdd, Int.reduceSub, Int.reduceMul, ca4, cv4, f4]
  refine ⟨fok66, gMac_cps kt σ s kk dt hk1 (by omega) _ (hs.mod hM04) (hK.mod hM04 (by simp)) _ fun w5 hM5 => .inl ⟨_, rfl, ?_⟩⟩
  have hM05 := hM04.trans hM5 (by simp)
  have hA5 := hM5.get hA4 (by simp)
  have hB5 := hM5.get hB4 (by simp)
  have f5 := cellMS f4 hM5 (by simp)
  have ca5 := fun o => cellOf (o := o) hA5
  have cv5 := fun o => cellOf (o := o) hB5
  refine hold_dops okT (rs := [.tmp 6]) rfl ?_
  have hml := macG_len kt σ kk dt
  generalize macG kt σ kk dt = Mk at *
  obtain ⟨mt, me⟩ := Mk
  unfold stV
  simp only at hml ⊢
  by_cases hme : me = 0
  rotate_left
  · rw [if_neg (by rw [Prod.mk.injEq]; exact fun h => hme h.2)] at hR
    simp (maxSteps := 1000000) (disch := first | omega | (simp only [sizeAlloc, sizeDrew, sizeSet, sizePut] <;> omega) | fail) only [GS, TT_eq, TTl, Nat.reduceAdd, Nat.reduceMul, Nat.reduceSub, Nat.reduceDiv, Nat.reduceMod, Nat.reducePow, Nat.reduceEqDiff, ↓reduceIte, reduceCtorEq, Int.reduceToNat, Int.reduceAdd, Int.reduceSub, Int.reduceMul, hme]
    exact hR _ hM05
  subst hme
  simp (maxSteps := 1000000) (disch := first | omega | (simp only [sizeAlloc, sizeDrew, sizeSet, sizePut] <;> omega) | fail) only [GS, TT_eq, TTl, Nat.reduceAdd, Nat.reduceMul, Nat.reduceSub, Nat.reduceDiv, Nat.reduceMod, Nat.reducePow, Nat.reduceEqDiff, ↓reduceIte, reduceCtorEq, Int.reduceToNat, Int.reduceAdd, Int.reduceSub, Int.reduceMul, cv5]
  refine ⟨fok45, sSame_cps s mt tag (by unfold maxLen; omega) _ _ fun w6 hM6 => .inl ⟨_, rfl, hold_ops okT (rs := [.tmp 6]) rfl ?_⟩⟩
  have hM06 := hM05.trans hM6 (by simp)
  by_cases ht : mt = tag
  · rw [if_pos (by rw [ht])] at hR
    rw [decide_eq_true ht]
    simp (maxSteps := 1000000) (disch := first | omega | (simp only [sizeAlloc, sizeDrew, sizeSet, sizePut] <;> omega) | fail) only [GS, TT_eq, TTl, Nat.reduceAdd, Nat.reduceMul, Nat.reduceSub, Nat.reduceDiv, Nat.reduceMod, Nat.reducePow, Nat.reduceEqDiff, ↓reduceIte, reduceCtorEq, Int.reduceToNat, Int.reduceAdd, Int.reduceSub, Int.reduceMul]
    exact hR _ hM06
  · rw [if_neg (by rw [Prod.mk.injEq]; exact fun h => ht h.1)] at hR
    rw [decide_eq_false ht]
    simp (maxSteps := 1000000) (disch := first | omega | (simp only [sizeAlloc, sizeDrew, sizeSet, sizePut] <;> omega) | fail) only [GS, TT_eq, TTl, Nat.reduceAdd, Nat.reduceMul, Nat.reduceSub, Nat.reduceDiv, Nat.reduceMod, Nat.reducePow, Nat.reduceEqDiff, ↓reduceIte, reduceCtorEq, Int.reduceToNat, Int.reduceAdd, Int.reduceSub, Int.reduceMul]
    exact hR _ hM06
theorem eNam1_cps (m : Mb) (org : Int) (b : Nat) (w : World) (hb : w.heap[b]? = some (.cells #[.int .i64 org] 3 (0, 0))) (R : Ending → World → Prop) (hR : ∀ w', Mod [] w w' → R (.returned (.bool (decide (m.1 = org)))) w') :
    Calls Tryz.prog 102 #[.agg #[.int .i64 m.1, .string ⟨m.2.toArray⟩], .pointer (some ⟨b, 0, none⟩)] w R := by
  obtain ⟨mo, md⟩ := m
  simp only at hR ⊢
  have hbl := (Array.getElem?_eq_some_iff.1 hb).1
  have cb := fun o => cellOf (o := o) hb
  refine calls_go 4000 okT Tryz.func102 rfl (rs := [.tmp 3]) rfl Tryz.ntmps102 (args := [.agg #[.int .i64 mo, .string ⟨md.toArray⟩], .pointer (some ⟨b, 0, none⟩)]) ?_
  by_cases h : mo = org
  · rw [decide_eq_true h] at hR
    simp (maxSteps := 1000000) (disch := first | omega | (simp only [sizeAlloc, sizeDrew, sizeSet, sizePut] <;> omega) | fail) only [GS, TT_eq, TTl, Nat.reduceAdd, Nat.reduceMul, Nat.reduceSub, Nat.reduceDiv, Nat.reduceMod, Nat.reducePow, Nat.reduceEqDiff, ↓reduceIte, reduceCtorEq, Int.reduceToNat, Int.reduceAdd, Int.reduceSub, Int.reduceMul, cb, h]
    first | exact hR _ ((Mod.refl [] w).alloc _) | (rw [h]; exact hR _ ((Mod.refl [] w).alloc _))
  · rw [decide_eq_false h] at hR
    simp (maxSteps := 1000000) (disch := first | omega | (simp only [sizeAlloc, sizeDrew, sizeSet, sizePut] <;> omega) | fail) only [GS, TT_eq, TTl, Nat.reduceAdd, Nat.reduceMul, Nat.reduceSub, Nat.reduceDiv, Nat.reduceMod, Nat.reducePow, Nat.reduceEqDiff, ↓reduceIte, reduceCtorEq, Int.reduceToNat, Int.reduceAdd, Int.reduceSub, Int.reduceMul, cb, h]
    exact hR _ ((Mod.refl [] w).alloc _)
theorem eIdxM_cps (sa : Value) (xs : List Mb) (org : Int) (b : Nat) (w : World) (hb : w.heap[b]? = some (.cells #[.int .i64 org] 3 (0, 0))) (R : Ending → World → Prop) (hx : xs.length ≤ 9223372036854775807) (ha : Rd w 2 sa xs.length (xs.flatMap mbC))
    (h1 : ∀ k w', (hk : k < xs.length) → xs[k].1 = org → Mod [] w w' → R (.returned (.int .i64 (k : Nat))) w') (h0 : (∀ m ∈ xs, m.1 ≠ org) → ∀ w', Mod [] w w' → R (.returned (.int .i64 (-1))) w') :
    Calls Tryz.prog 101 #[sa, .func (.func 102) #[] #[.pointer (some ⟨b, 0, none⟩)]] w R := by
  obtain ⟨a, ca, rfl⟩ := ha.slice
  refine calls_go 4000 okT Tryz.func101 rfl (rs := [.tmp 4]) rfl Tryz.ntmps101 (args := [.slice a xs.length ca, .func (.func 102) #[] #[.pointer (some ⟨b, 0, none⟩)]]) ?_
  simp (maxSteps := 1000000) (disch := first | omega | (simp only [sizeAlloc, sizeDrew, sizeSet, sizePut] <;> omega) | fail) only [GS, TT_eq, TTl, Nat.reduceAdd, Nat.reduceMul, Nat.reduceSub, Nat.reduceDiv, Nat.reduceMod, Nat.reducePow, Nat.reduceEqDiff, ↓reduceIte, reduceCtorEq, Int.reduceToNat, Int.reduceAdd, Int.reduceSub, Int.reduceMul]
  refine hold_loop okT (rs := [.tmp 4]) rfl [8] [4, 5, 9, 10, 11, 12, 13, 14, 15, 16, 17, 18] (fun vs w' => ∃ k : Nat, k ≤ xs.length ∧ vs = [.int .i64 k] ∧ Mod [] w w' ∧ ∀ s ∈ xs.take k, s.1 ≠ org) (fun vs _ => match vs with | [.int _ i] => xs.length - i.toNat | _ => 0) (by kernel_rfl) ⟨0, by omega, rfl, Mod.refl _ _, by simp⟩ ?_
  rintro vs w1 J ⟨k, hk, rfl, hM, hn⟩
  by_cases hlt : k < xs.length
  · obtain ⟨b1, o1, c1, e1, _, g1⟩ := (ha.mod hM (by simp)).at (by omega) (by omega)
    have hfl := fun j hj => flat_get mbC 2 mbC_len xs k hlt j hj
    have htk := List.take_succ_eq_append_getElem hlt
    have h1k := fun w' h hm => h1 k w' hlt h hm
    generalize xs[k] = m at hfl htk h1k
    rw [Value.slice.injEq] at e1
    obtain ⟨rfl, -, -⟩ := e1
    have d0 : w1.cell? ⟨b1, o1 + k * 2, none⟩ = some (.int .i64 m.1) := by rw [← g1 (k * 2) _ (hfl 0 (by omega))]
    have d1 : w1.cell? ⟨b1, o1 + k * 2 + 1, none⟩ = some (.string ⟨m.2.toArray⟩) := by rw [← g1 (k * 2 + 1) _ (hfl 1 (by omega))]; rfl
    simp (maxSteps := 1000000) (disch := first | omega | (simp only [sizeAlloc, sizeDrew, sizeSet, sizePut] <;> omega) | fail) only [GS, TT_eq, TTl, Nat.reduceAdd, Nat.reduceMul, Nat.reduceSub, Nat.reduceDiv, Nat.reduceMod, Nat.reducePow, Nat.reduceEqDiff, ↓reduceIte, reduceCtorEq, Int.reduceToNat, Int.reduceAdd, Int.reduceSub, Int.reduceMul, d0, d1]
    refine ⟨fok102, eNam1_cps m org b _ (hM.get hb (by simp)) _ fun w2 hM2 => .inl ⟨_, rfl, hold_ops okT (rs := [.tmp 4]) rfl ?_⟩⟩
    have hM02 := hM.trans hM2 (by simp)
    by_cases hc : m.1 = org
    · simp (maxSteps := 1000000) (disch := first | omega | (simp only [sizeAlloc, sizeDrew, sizeSet, sizePut] <;> omega) | fail) only [GS, TT_eq, TTl, Nat.reduceAdd, Nat.reduceMul, Nat.reduceSub, Nat.reduceDiv, Nat.reduceMod, Nat.reducePow, Nat.reduceEqDiff, ↓reduceIte, reduceCtorEq, Int.reduceToNat, Int.reduceAdd, Int.reduceSub, Int.reduceMul, hc, decide_true]
      exact h1k _ hc hM02
    · simp (maxSteps := 1000000) (disch := first | omega | (simp only [sizeAlloc, sizeDrew, sizeSet, sizePut] <;> omega) | fail) only [GS, TT_eq, TTl, Nat.reduceAdd, Nat.reduceMul, Nat.reduceSub, Nat.reduceDiv, Nat.reduceMod, Nat.reducePow, Nat.reduceEqDiff, ↓reduceIte, reduceCtorEq, Int.reduceToNat, Int.reduceAdd, Int.reduceSub, Int.reduceMul, hc, decide_false]
      refine ⟨⟨k + 1, by omega, rfl, hM02, ?_⟩, by omega⟩
      rw [htk]
      intro s hs
      rcases List.mem_append.1 hs with hs | hs
      · exact hn s hs
      · rw [List.mem_singleton.1 hs]; exact hc
  · have e : k = xs.length := by omega
    subst e
    rw [List.take_length] at hn
    simp (maxSteps := 1000000) (disch := first | omega | (simp only [sizeAlloc, sizeDrew, sizeSet, sizePut] <;> omega) | fail) only [GS, TT_eq, TTl, Nat.reduceAdd, Nat.reduceMul, Nat.reduceSub, Nat.reduceDiv, Nat.reduceMod, Nat.reducePow, Nat.reduceEqDiff, ↓reduceIte, reduceCtorEq, Int.reduceToNat, Int.reduceAdd, Int.reduceSub, Int.reduceMul]
    exact h0 hn _ hM
theorem mbs_uniq {c : Int} : ∀ {l : List Mb} {last : Int}, mbsB c last l = true → ∀ (i j : Nat) (hi : i < l.length) (hj : j < l.length), l[i].1 = l[j].1 → i = j
  | [], _, _, i, _, hi, _, _ => by simp at hi
  | y :: l, last, h, 0, 0, _, _, _ => rfl
  | y :: l, last, h, 0, j + 1, hi, hj, e => by
    simp only [mbsB, Bool.and_eq_true, decide_eq_true_eq] at h
    simp only [List.getElem_cons_zero, List.getElem_cons_succ] at e
    have := mbs_lt h.2 _ (List.getElem_mem (show j < l.length by simpa using hj))
    omega
  | y :: l, last, h, i + 1, 0, hi, hj, e => by
    simp only [mbsB, Bool.and_eq_true, decide_eq_true_eq] at h
    simp only [List.getElem_cons_zero, List.getElem_cons_succ] at e
    have := mbs_lt h.2 _ (List.getElem_mem (show i < l.length by simpa using hi))
    omega
  | y :: l, last, h, i + 1, j + 1, hi, hj, e => by
    simp only [mbsB, Bool.and_eq_true, decide_eq_true_eq] at h
    simp only [List.getElem_cons_succ] at e
    have := mbs_uniq h.2 i j (by simpa using hi) (by simpa using hj) e
    omega
theorem eNames_cps (r : Rcp) (sm st : Value) (org : Int) (w : World) (hr : RcpIn w r sm st) (R : Ending → World → Prop)
    (h1 : ∀ k (hk : k < r.mbs.length) (hk2 : k < r.tags.length) w', mayR r = true → r.mbs[k].1 = org → Mod [] w w' → R (.returned (.tuple #[.string ⟨r.mbs[k].2.toArray⟩, .string ⟨(r.tags[k]).toArray⟩, .bool true])) w')
    (h0 : (mayR r = false ∨ ∀ m ∈ r.mbs, m.1 ≠ org) → ∀ w', Mod [] w w' → R (.returned (.tuple #[.string ⟨#[]⟩, .string ⟨#[]⟩, .bool false])) w') :
    Calls Tryz.prog 63 #[rcV r sm st, .int .i64 org] w R := by
  have hCk := eCheck_cps r sm st
  have hIx := eIdxM_cps sm r.mbs org
  have hrW : ∀ w', Mod [] w w' → RcpIn w' r sm st := fun w' hM => hr.mod hM
  have hml := hr.mlen
  have hmr := hr.mrd
  have htr := hr.trd
  have hmay := @may_is r
  clear hr
  generalize mayR r = M at *
  obtain ⟨⟨xa, xb, xc⟩, xd, mbs, tags⟩ := r
  unfold rcV rcC at hCk ⊢
  simp only at hCk hIx hml hmr htr h1 h0 hmay ⊢
  obtain ⟨pm, cm, rfl⟩ := hmr.slice
  obtain ⟨pt, ct, rfl⟩ := htr.slice
  refine calls_go 4000 okT Tryz.func63 rfl (rs := [.tmp 4, .tmp 5, .tmp 6]) rfl Tryz.ntmps63 (args := [.agg #[.int .i64 xa, .int .i64 xb, .int .i64 xc, .int .i64 xd, .slice pm mbs.length cm, .slice pt tags.length ct], .int .i64 org]) ?_
  simp (maxSteps := 1000000) (disch := first | omega | (simp only [sizeAlloc, sizeDrew, sizeSet, sizePut] <;> omega) | fail) only [GS, TT_eq, TTl, Nat.reduceAdd, Nat.reduceMul, Nat.reduceSub, Nat.reduceDiv, Nat.reduceMod, Nat.reducePow, Nat.reduceEqDiff, ↓reduceIte, reduceCtorEq, Int.reduceToNat, Int.reduceAdd, Int.reduceSub, Int.reduceMul]
  have hM0 := ((Mod.refl [] w).alloc (.cells #[.int .i64 xa, .int .i64 xb, .int .i64 xc, .int .i64 xd, .slice pm mbs.length cm, .slice pt tags.length ct] 27)).alloc (.cells #[.int .i64 org] 3)
  have hA := heapAlloc (o' := .cells #[.int .i64 org] 3) (heapNew (w := w) (o := .cells #[.int .i64 xa, .int .i64 xb, .int .i64 xc, .int .i64 xd, .slice pm mbs.length cm, .slice pt tags.length ct] 27))
  have hB := heapNew (w := w.alloc (.cells #[.int .i64 xa, .int .i64 xb, .int .i64 xc, .int .i64 xd, .slice pm mbs.length cm, .slice pt tags.length ct] 27)) (o := .cells #[.int .i64 org] 3)
  rw [sizeAlloc] at hB
  generalize (w.alloc (.cells #[.int .i64 xa, .int .i64 xb, .int .i64 xc, .int .i64 xd, .slice pm mbs.length cm, .slice pt tags.length ct] 27)).alloc (.cells #[.int .i64 org] 3) = w1 at hM0 hA hB ⊢
  generalize hn : w.heap.size = n at *
  refine ⟨fok101, hIx (n + 1) _ hB _ (by omega) (hmr.mod hM0 (by simp)) (fun k w2 hk hko hM2 => .inl ⟨_, rfl, hold_ops okT (rs := [.tmp 4, .tmp 5, .tmp 6]) rfl ?_⟩) (fun hno w2 hM2 => .inl ⟨_, rfl, hold_ops okT (rs := [.tmp 4, .tmp 5, .tmp 6]) rfl ?_⟩)⟩
  rotate_left
  · simp (maxSteps := 1000000) (disch := first | omega | (simp only [sizeAlloc, sizeDrew, sizeSet, sizePut] <;> omega) | fail) only [GS, TT_eq, TTl, Nat.reduceAdd, Nat.reduceMul, Nat.reduceSub, Nat.reduceDiv, Nat.reduceMod, Nat.reducePow, Nat.reduceEqDiff, ↓reduceIte, reduceCtorEq, Int.reduceToNat, Int.reduceAdd, Int.reduceSub, Int.reduceMul]
    exact h0 (.inr hno) _ (hM0.trans hM2 (by simp))
  have hM02 := hM0.trans hM2 (by simp)
  have hA2 := hM2.get hA (by simp)
  have c2 := fun o => cellOf (o := o) hA2
  have hk0 : ¬ ((k : Nat) : Int) < 0 := by omega
  simp (maxSteps := 1000000) (disch := first | omega | (simp only [sizeAlloc, sizeDrew, sizeSet, sizePut] <;> omega) | fail) only [GS, TT_eq, TTl, Nat.reduceAdd, Nat.reduceMul, Nat.reduceSub, Nat.reduceDiv, Nat.reduceMod, Nat.reducePow, Nat.reduceEqDiff, ↓reduceIte, reduceCtorEq, Int.reduceToNat, Int.reduceAdd, Int.reduceSub, Int.reduceMul, c2, hk0]
  refine ⟨fok35, hCk _ (hrW _ hM02) _ fun w3 hM3 => .inl ⟨_, rfl, hold_ops okT (rs := [.tmp 4, .tmp 5, .tmp 6]) rfl ?_⟩⟩
  have hM03 := hM02.trans hM3 (by simp)
  cases M
  · simp only [Bool.false_eq_true, if_false]
    simp (maxSteps := 1000000) (disch := first | omega | (simp only [sizeAlloc, sizeDrew, sizeSet, sizePut] <;> omega) | fail) only [GS, TT_eq, TTl, Nat.reduceAdd, Nat.reduceMul, Nat.reduceSub, Nat.reduceDiv, Nat.reduceMod, Nat.reducePow, Nat.reduceEqDiff, ↓reduceIte, reduceCtorEq, Int.reduceToNat, Int.reduceAdd, Int.reduceSub, Int.reduceMul]
    exact h0 (.inl rfl) _ hM03
  simp only [if_true]
  have hlen := (hmay rfl).2.2.2.1
  have hk2 : k < tags.length := by omega
  have hA3 := hM3.get hA2 (by simp)
  have c3 := fun o => cellOf (o := o) hA3
  obtain ⟨b1, o1, c1, e1, _, g1⟩ := (hmr.mod hM03 (by simp)).at (by omega) (by omega)
  obtain ⟨b2, o2, c4, e2, _, g2⟩ := (htr.mod hM03 (by simp)).at (by omega) (by omega)
  have hfl := fun j hj => flat_get mbC 2 mbC_len mbs k hk j hj
  have f2 := g2 k _ (getS hk2)
  have hF := fun w' hm => h1 k hk hk2 w' rfl hko hm
  generalize tags[k] = tg at f2 hF
  generalize mbs[k] = m at hfl hF
  rw [Value.slice.injEq] at e1 e2
  obtain ⟨rfl, -, -⟩ := e1
  obtain ⟨rfl, -, -⟩ := e2
  have d1 : w3.cell? ⟨b1, o1 + k * 2 + 1, none⟩ = some (.string ⟨m.2.toArray⟩) := by rw [← g1 (k * 2 + 1) _ (hfl 1 (by omega))]; rfl
  simp (maxSteps := 1000000) (disch := first | omega | (simp only [sizeAlloc, sizeDrew, sizeSet, sizePut] <;> omega) | fail) only [GS, TT_eq, TTl, Nat.reduceAdd, Nat.reduceMul, Nat.reduceSub, Nat.reduceDiv, Nat.reduceMod, Nat.reducePow, Nat.reduceEqDiff, ↓reduceIte, reduceCtorEq, Int.reduceToNat, Int.reduceAdd, Int.reduceSub, Int.reduceMul, c3, d1, f2]
  exact ⟨by kernel_rfl, fun d => hF _ (hM03.drewN d)⟩
theorem own_sep {w : World} {b1 e1 s1 n1 b2 e2 s2 n2 : Nat} {v1 v2 : Value} {x1 x2 : List Value} (h1 : w.ownsRow b1 e1 s1 v1 n1 x1) (h2 : w.ownsRow b2 e2 s2 v2 n2 x2) (hne : e2 ≠ e1) : ∀ g, v1.ownBlock = some g → g ∉ v2.ownBlock.toList := by
  rcases h2.2 with ⟨rfl, _⟩ | ⟨g2, cap, cur, rfl, hb, hg, _⟩
  · simp [Value.ownBlock]
  · intro g hg1 hm
    simp [Value.ownBlock] at hm
    exact own_ne h1 hg hne g hg1 hm
theorem blL_in (r : Rcp) : ∀ (vs : List Value) (l : List Mb) (k : Nat) (hk : k < l.length), vs.length = l.length → ∃ v ∈ vs, ∀ j, j < 6 → (blL r vs l)[k * 6 + j]? = (blC r v l[k].1)[j]?
  | [], [], k, hk, _ => by simp at hk
  | x :: vs, y :: l, 0, hk, h => by
    refine ⟨x, by simp, fun j hj => ?_⟩
    have : j < (blC r x y.1).length := by simp [blC]; omega
    simp only [blL, Nat.zero_mul, Nat.zero_add, List.getElem_cons_zero]
    rw [List.getElem?_append_left this]
  | x :: vs, y :: l, k + 1, hk, h => by
    simp only [List.length_cons, Nat.add_right_cancel_iff] at h hk
    obtain ⟨v, hm, hv⟩ := blL_in r vs l k (by omega) h
    refine ⟨v, by simp [hm], fun j hj => ?_⟩
    have e : (k + 1) * 6 + j = (blC r x y.1).length + (k * 6 + j) := by simp [blC]; omega
    simp only [blL, List.getElem_cons_succ]
    rw [e, List.getElem?_append_right (by omega), Nat.add_sub_cancel_left]
    exact hv j hj
  | [], _ :: _, _, _, h => by simp at h
  | _ :: _, [], _, _, h => by simp at h
theorem eClone2_cps (sm : Value) (l : List Mb) (w : World) (hl : l.length ≤ 1000000) (ha : Rd w 2 sm l.length (l.flatMap mbC)) (R : Ending → World → Prop) (hR : ∀ sv w', w'.ownsRow w.heap.size 84 2 sv l.length (l.flatMap mbC) → Mod [] w w' → R (.returned sv) w') : Calls Tryz.prog 44 #[sm] w R := by
  obtain ⟨a, c, rfl⟩ := ha.slice
  refine calls_go 4000 okT Tryz.func44 rfl (rs := [.tmp 2]) rfl Tryz.ntmps44 (args := [.slice a l.length c]) ?_
  cases a with
  | none =>
    simp (maxSteps := 1000000) (disch := first | omega | (simp only [sizeAlloc, sizeDrew, sizeSet, sizePut] <;> omega) | fail) only [GS, TT_eq, TTl, Nat.reduceAdd, Nat.reduceMul, Nat.reduceSub, Nat.reduceDiv, Nat.reduceMod, Nat.reducePow, Nat.reduceEqDiff, ↓reduceIte, reduceCtorEq, Int.reduceToNat, Int.reduceAdd, Int.reduceSub, Int.reduceMul]
    have h0 : l.length = 0 := by
      apply Classical.byContradiction
      intro h
      obtain ⟨b, o, cap, e, _⟩ := ha.at (by omega) (by omega)
      simp at e
    rw [List.length_eq_zero_iff.1 h0] at hR
    exact hR _ _ (World.ownsRow_nil _ _ _ _) (Mod.refl _ _)
  | some ad =>
    simp (maxSteps := 1000000) (disch := first | omega | (simp only [sizeAlloc, sizeDrew, sizeSet, sizePut] <;> omega) | fail) only [GS, TT_eq, TTl, Nat.reduceAdd, Nat.reduceMul, Nat.reduceSub, Nat.reduceDiv, Nat.reduceMod, Nat.reducePow, Nat.reduceEqDiff, ↓reduceIte, reduceCtorEq, Int.reduceToNat, Int.reduceAdd, Int.reduceSub, Int.reduceMul]
    have hz := zeroRow (w := w) (e := 84) (base := w.heap.size) (size := 2) (Nat.le_refl _)
    have hM0 := (Mod.refl [] w).alloc (.cells #[] 84)
    have ha1 := ha.mod hM0 (by simp)
    refine hold_appendR okT rfl rfl rfl rfl (by decide) w.heap.size hz rfl rfl ha1 (by intro u hu; obtain ⟨z, _, hz⟩ := List.mem_flatMap.1 hu; simp only [mbC, List.mem_cons, List.not_mem_nil, or_false] at hz; rcases hz with rfl | rfl <;> rfl) (by simp only; omega) (by unfold maxLen; omega) (by rw [sizeAlloc]; omega) fun sv w2 hown hM2 => hold_ops okT (rs := [.tmp 2]) rfl ?_
    have hsv := ownsRow_one hown
    simp (maxSteps := 1000000) (disch := first | omega | (simp only [sizeAlloc, sizeDrew, sizeSet, sizePut] <;> omega) | fail) only [GS, TT_eq, TTl, Nat.reduceAdd, Nat.reduceMul, Nat.reduceSub, Nat.reduceDiv, Nat.reduceMod, Nat.reducePow, Nat.reduceEqDiff, ↓reduceIte, reduceCtorEq, Int.reduceToNat, Int.reduceAdd, Int.reduceSub, Int.reduceMul, cellsL_one hsv, hsv]
    rw [Nat.zero_add, List.nil_append] at hown
    exact hR sv _ hown (hM0.trans hM2 (fun y hy => .inr (by simp [Value.ownBlock] at hy; omega)))
theorem eBallots2_cps (r : Rcp) (sm st : Value) (w : World) (hr : RcpIn w r sm st) (R : Ending → World → Prop)
    (hR : ∀ sv vs w', mayR r = true → vs.length = r.mbs.length → (∀ v ∈ vs, w'.ownsRow w.heap.size 84 2 v r.mbs.length (r.mbs.flatMap mbC)) → w'.ownsRow w.heap.size 45 6 sv r.mbs.length (blL r vs r.mbs) → Mod [] w w' → R (.returned sv) w') (hN : mayR r = false → ∀ w', Mod [] w w' → R (.returned (.slice none 0 0)) w') :
    Calls Tryz.prog 13 #[rcV r sm st] w R := by
  have hCk := eCheck_cps r sm st
  have hCl := eClone2_cps sm r.mbs
  have hmr := hr.mrd
  have hml := hr.mlen
  have hrW : ∀ w', Mod [] w w' → RcpIn w' r sm st := fun w' hM => hr.mod hM
  have osm : sm.oneCell' = true := by obtain ⟨a, c, e⟩ := hr.mrd.slice; rw [e]; rfl
  have ost : st.oneCell' = true := by obtain ⟨a, c, e⟩ := hr.trd.slice; rw [e]; rfl
  have hmy : ∀ b, mayR r = b → mayR r = b := fun _ h => h
  generalize hM : mayR r = M at hCk hR hN
  clear hr hmy hM
  have hblS := blL_snoc r
  have hbl0 : blL r [] [] = [] := rfl
  have hblc : ∀ v o, blC r v o = [.int .i64 r.tx.1, .int .i64 r.tx.2.1, .int .i64 r.tx.2.2, .int .i64 r.aud, v, .int .i64 o] := fun _ _ => rfl
  generalize blL r = BL at hR hblS hbl0
  generalize blC r = BC at hblS hblc
  unfold rcV rcC at hCk ⊢
  obtain ⟨⟨xa, xb, xc⟩, xd, mbs, tags⟩ := r
  simp only at hCk hCl hmr hml hR hblc ⊢
  obtain ⟨pm, cm, rfl⟩ := hmr.slice
  refine calls_go 4000 okT Tryz.func13 rfl (rs := [.tmp 2]) rfl Tryz.ntmps13 (args := [.agg #[.int .i64 xa, .int .i64 xb, .int .i64 xc, .int .i64 xd, .slice pm mbs.length cm, st]]) ?_
  simp (maxSteps := 1000000) (disch := first | omega | (simp only [sizeAlloc, sizeDrew, sizeSet, sizePut] <;> omega) | fail) only [GS, TT_eq, TTl, Nat.reduceAdd, Nat.reduceMul, Nat.reduceSub, Nat.reduceDiv, Nat.reduceMod, Nat.reducePow, Nat.reduceEqDiff, ↓reduceIte, reduceCtorEq, Int.reduceToNat, Int.reduceAdd, Int.reduceSub, Int.reduceMul, ost, cellsL_one ost]
  have hM0 := (Mod.refl [] w).alloc (.cells #[.int .i64 xa, .int .i64 xb, .int .i64 xc, .int .i64 xd, .slice pm mbs.length cm, st] 27)
  have hA := heapNew (w := w) (o := .cells #[.int .i64 xa, .int .i64 xb, .int .i64 xc, .int .i64 xd, .slice pm mbs.length cm, st] 27)
  generalize w.alloc (.cells #[.int .i64 xa, .int .i64 xb, .int .i64 xc, .int .i64 xd, .slice pm mbs.length cm, st] 27) = w1 at hM0 hA ⊢
  generalize hn : w.heap.size = n at *
  refine ⟨fok35, hCk _ (hrW _ hM0) _ fun w2 hM2 => .inl ⟨_, rfl, hold_ops okT (rs := [.tmp 2]) rfl ?_⟩⟩
  have hA2 := hM2.get hA (by simp)
  have hM02 := hM0.trans hM2 (by simp)
  have c2 := fun o => cellOf (o := o) hA2
  cases M
  · simp only [Bool.false_eq_true, if_false]
    simp (maxSteps := 1000000) (disch := first | omega | (simp only [sizeAlloc, sizeDrew, sizeSet, sizePut] <;> omega) | fail) only [GS, TT_eq, TTl, Nat.reduceAdd, Nat.reduceMul, Nat.reduceSub, Nat.reduceDiv, Nat.reduceMod, Nat.reducePow, Nat.reduceEqDiff, ↓reduceIte, reduceCtorEq, Int.reduceToNat, Int.reduceAdd, Int.reduceSub, Int.reduceMul]
    exact hN rfl _ hM02
  simp only [if_true]
  have hs0 := hM02.size
  simp (maxSteps := 1000000) (disch := first | omega | (simp only [sizeAlloc, sizeDrew, sizeSet, sizePut] <;> omega) | fail) only [GS, TT_eq, TTl, Nat.reduceAdd, Nat.reduceMul, Nat.reduceSub, Nat.reduceDiv, Nat.reduceMod, Nat.reducePow, Nat.reduceEqDiff, ↓reduceIte, reduceCtorEq, Int.reduceToNat, Int.reduceAdd, Int.reduceSub, Int.reduceMul, c2]
  refine hold_loop okT (rs := [.tmp 2]) rfl [2, 10] [3, 11, 12, 13, 14, 15, 16, 17, 18, 19, 20, 21, 22, 23, 24, 25, 26, 27, 28, 29, 30] (fun vs w' => ∃ (k : Nat) (sv : Value) (us : List Value), vs = [sv, .int .i64 k] ∧ k ≤ mbs.length ∧ us.length = k ∧ (∀ v ∈ us, w'.ownsRow w2.heap.size 84 2 v mbs.length (mbs.flatMap mbC)) ∧ w'.ownsRow w2.heap.size 45 6 sv k (BL us (mbs.take k)) ∧ Mod [] w2 w') (fun vs _ => match vs with | [_, .int _ i] => mbs.length - i.toNat | _ => 0) (by kernel_rfl) ⟨0, .slice none 0 0, [], rfl, by omega, rfl, by simp, by rw [List.take_zero, hbl0]; exact World.ownsRow_nil _ _ _ _, Mod.refl _ _⟩ ?_
  rintro vs w3 J ⟨k, sv, us, rfl, hk, hus, hou, hown, hM3⟩
  have hM03 := hM02.trans hM3 (by simp)
  have hA3 := hM3.get hA2 (by simp)
  have hcl := ownsRow_one hown
  obtain ⟨va, vc, rfl⟩ := (Rd.own hown).slice
  by_cases hlt : k < mbs.length
  · have hrd := hmr.mod hM03 (by simp)
    obtain ⟨b1, o1, c1, e1, _, g1⟩ := hrd.at (by omega) (by omega)
    have hfl := fun j hj => flat_get mbC 2 mbC_len mbs k hlt j hj
    have htk := List.take_succ_eq_append_getElem hlt
    generalize mbs[k] = m at hfl htk
    obtain ⟨mo, md⟩ := m
    rw [Value.slice.injEq] at e1
    obtain ⟨rfl, -, -⟩ := e1
    have d0 : w3.cell? ⟨b1, o1 + k * 2, none⟩ = some (.int .i64 mo) := by rw [← g1 (k * 2) _ (hfl 0 (by omega))]
    have c3 := fun o => cellOf (o := o) hA3
    simp (maxSteps := 1000000) (disch := first | omega | (simp only [sizeAlloc, sizeDrew, sizeSet, sizePut] <;> omega) | fail) only [GS, TT_eq, TTl, Nat.reduceAdd, Nat.reduceMul, Nat.reduceSub, Nat.reduceDiv, Nat.reduceMod, Nat.reducePow, Nat.reduceEqDiff, ↓reduceIte, reduceCtorEq, Int.reduceToNat, Int.reduceAdd, Int.reduceSub, Int.reduceMul, c3, d0]
    refine hold_draw okT (rs := [.tmp 2]) rfl [0, 0, 2, 0, 8, 0, 32, 96, 0, 256, 0, 1792, 3840, 7936, 16382, 32766, 65535, 131071] [0, 1, 2, 3, 4, 5, 6, 8, 9, 10, 11, 12, 13, 7, 14, 15, 16, 17] (by kernel_rfl) (by kernel_rfl) ?_
    have hA4 : (w3.drewN 1).heap[n]? = _ := hA3
    have d4 : (w3.drewN 1).cell? ⟨b1, o1 + k * 2, none⟩ = some (.int .i64 mo) := d0
    have hM34 := (Mod.refl [] w3).drewN 1
    have hown4 := ownsRow_mod hown hM34 (by simp)
    generalize w3.drewN 1 = w4 at *
    have c4 := fun o => cellOf (o := o) hA4
    have e3 : w4.cell? ⟨n, 3, none⟩ = some (.int .i64 xd) := c4 3
    have e4 : w4.cell? ⟨n, 4, none⟩ = some (.slice (some ⟨b1, o1, none⟩) mbs.length cm) := c4 4
    have hag : ∀ w' : World, Mod [] w4 w' → aggO (consO (w'.cell? ⟨n, 0, none⟩) (consO (w'.cell? ⟨n, 1, none⟩) (consO (w'.cell? ⟨n, 2, none⟩) (some [])))) = some (.agg #[.int .i64 xa, .int .i64 xb, .int .i64 xc]) := by
      intro w' hm
      rw [cellM (show w4.cell? ⟨n, 0, none⟩ = some (.int .i64 xa) from c4 0) hm, cellM (show w4.cell? ⟨n, 1, none⟩ = some (.int .i64 xb) from c4 1) hm, cellM (show w4.cell? ⟨n, 2, none⟩ = some (.int .i64 xc) from c4 2) hm]
      rfl
    simp (maxSteps := 1000000) (disch := first | omega | (simp only [sizeAlloc, sizeDrew, sizeSet, sizePut] <;> omega) | fail) only [GS, TT_eq, TTl, Nat.reduceAdd, Nat.reduceMul, Nat.reduceSub, Nat.reduceDiv, Nat.reduceMod, Nat.reducePow, Nat.reduceEqDiff, ↓reduceIte, reduceCtorEq, Int.reduceToNat, Int.reduceAdd, Int.reduceSub, Int.reduceMul, c4, d4]
    refine ⟨fok44, hCl _ hml (hmr.mod (hM03.trans hM34 (by simp)) (by simp)) _ fun v w5 hvo hM5 => .inl ⟨_, rfl, ?_⟩⟩
    refine ⟨(by repeat' (first | exact hag _ hM5 | exact cellM d4 hM5 | exact cellM e3 hM5 | exact cellM e4 hM5 | apply And.intro)), hold_dops okT (rs := [.tmp 2]) rfl ?_⟩
    have hown5 := ownsRow_mod hown4 hM5 (by simp)
    have hM35 := hM34.trans hM5 (by simp)
    have hM25 := hM3.trans hM35 (by simp)
    have hv := ownsRow_one hvo
    have hvo5 := ownsRow_base hvo (hM3.trans hM34 (by simp)).size
    have hou5 := fun u hu => ownsRow_mod (hou u hu) hM35 (by simp)
    simp (maxSteps := 1000000) (disch := first | omega | (simp only [sizeAlloc, sizeDrew, sizeSet, sizePut] <;> omega) | fail) only [GS, TT_eq, TTl, Nat.reduceAdd, Nat.reduceMul, Nat.reduceSub, Nat.reduceDiv, Nat.reduceMod, Nat.reducePow, Nat.reduceEqDiff, ↓reduceIte, reduceCtorEq, Int.reduceToNat, Int.reduceAdd, Int.reduceSub, Int.reduceMul, hv, cellsL_one hv]
    refine hold_dappendN okT rfl rfl rfl rfl (by decide) w2.heap.size hown5 rfl rfl (news := [.int .i64 xa, .int .i64 xb, .int .i64 xc, .int .i64 xd, v, .int .i64 mo]) rfl (by decide) (by intro u hu; simp only [List.mem_cons, List.not_mem_nil, or_false] at hu; rcases hu with rfl | rfl | rfl | rfl | rfl | rfl <;> first | rfl | exact hv) (by simp only; omega) (by unfold maxLen; omega) hM25.size fun v' w7 hown7 hM7 _ => ⟨?_, hold_dops okT (rs := [.tmp 2]) rfl ?_⟩
    · simp (maxSteps := 1000000) only [GS, TT_eq, TTl, Nat.reduceAdd, Nat.reduceMul, Nat.reduceSub, Nat.reduceDiv, Nat.reduceMod, Nat.reducePow, Nat.reduceEqDiff, ↓reduceIte, reduceCtorEq, Int.reduceToNat, Int.reduceAdd, Int.reduceSub, Int.reduceMul]
    have hob : ∀ y ∈ (Value.slice va k vc).ownBlock.toList, w2.heap.size ≤ y := fun y hy => (hown5.lt y (by simpa using hy)).1
    have hM27 := hM25.trans hM7 (fun y hy => .inr (hob y hy))
    simp (maxSteps := 1000000) (disch := first | omega | (simp only [sizeAlloc, sizeDrew, sizeSet, sizePut] <;> omega) | fail) only [GS, TT_eq, TTl, Nat.reduceAdd, Nat.reduceMul, Nat.reduceSub, Nat.reduceDiv, Nat.reduceMod, Nat.reducePow, Nat.reduceEqDiff, ↓reduceIte, reduceCtorEq, Int.reduceToNat, Int.reduceAdd, Int.reduceSub, Int.reduceMul]
    refine ⟨⟨k + 1, _, us ++ [v], rfl, by omega, by rw [List.length_append]; simp; omega, ?_, ?_, hM27⟩, by omega⟩
    · intro u hu
      rcases List.mem_append.1 hu with hu | hu
      · exact ownsRow_mod' (hou5 u hu) hM7 (own_sep (hou5 u hu) hown5 (by decide))
      · rw [List.mem_singleton.1 hu]
        exact ownsRow_mod' hvo5 hM7 (own_sep hvo5 hown5 (by decide))
    rw [htk, hblS us (mbs.take k) v (mo, md) (by rw [hus, List.length_take]; omega), hblc]
    exact hown7
  · have e : k = mbs.length := by omega
    subst e
    rw [List.take_length] at hown
    simp (maxSteps := 1000000) (disch := first | omega | (simp only [sizeAlloc, sizeDrew, sizeSet, sizePut] <;> omega) | fail) only [GS, TT_eq, TTl, Nat.reduceAdd, Nat.reduceMul, Nat.reduceSub, Nat.reduceDiv, Nat.reduceMod, Nat.reducePow, Nat.reduceEqDiff, ↓reduceIte, reduceCtorEq, Int.reduceToNat, Int.reduceAdd, Int.reduceSub, Int.reduceMul]
    exact hR _ us _ rfl hus (fun v hv => ownsRow_base (hou v hv) (by omega)) (ownsRow_base hown (by omega)) hM03
theorem rdBlk {w : World} {b e n size : Nat} {xs : List Value} (h : w.heap[b]? = some (.cells xs.toArray e (0, 0))) (hn : xs.length = n * size) : Rd w size (.slice (some ⟨b, 0, none⟩) n n) n xs := by
  refine ⟨hn, some ⟨b, 0, none⟩, n, rfl, Nat.le_refl _, fun j u hj => ⟨b, 0, rfl, ?_⟩⟩
  rw [cellOf h, Nat.zero_add]
  simpa using hj
theorem st6z {w : World} {p t : Nat} {fr : Nat × Nat} {a0 a1 a2 a3 a4 a5 x0 x1 x2 x3 x4 x5 : Value} (hz : w.heap[p]? = some (.cells #[a0, a1, a2, a3, a4, a5] t fr)) : ((((((w.setCell ⟨p, 0, none⟩ (x0)).setCell ⟨p, 1, none⟩ (x1)).setCell ⟨p, 2, none⟩ (x2)).setCell ⟨p, 3, none⟩ (x3)).setCell ⟨p, 4, none⟩ (x4)).setCell ⟨p, 5, none⟩ (x5)).heap[p]? = some (.cells #[x0, x1, x2, x3, x4, x5] t fr) := by
  have h0 : (w.setCell ⟨p, 0, none⟩ x0).heap[p]? = some (.cells #[x0, a1, a2, a3, a4, a5] t fr) := by rw [heapSet hz]; rfl
  revert h0
  generalize w.setCell ⟨p, 0, none⟩ x0 = w0
  intro h0
  have h1 : (w0.setCell ⟨p, 1, none⟩ x1).heap[p]? = some (.cells #[x0, x1, a2, a3, a4, a5] t fr) := by rw [heapSet h0]; rfl
  revert h1
  generalize w0.setCell ⟨p, 1, none⟩ x1 = w1
  intro h1
  have h2 : (w1.setCell ⟨p, 2, none⟩ x2).heap[p]? = some (.cells #[x0, x1, x2, a3, a4, a5] t fr) := by rw [heapSet h1]; rfl
  revert h2
  generalize w1.setCell ⟨p, 2, none⟩ x2 = w2
  intro h2
  have h3 : (w2.setCell ⟨p, 3, none⟩ x3).heap[p]? = some (.cells #[x0, x1, x2, x3, a4, a5] t fr) := by rw [heapSet h2]; rfl
  revert h3
  generalize w2.setCell ⟨p, 3, none⟩ x3 = w3
  intro h3
  have h4 : (w3.setCell ⟨p, 4, none⟩ x4).heap[p]? = some (.cells #[x0, x1, x2, x3, x4, a5] t fr) := by rw [heapSet h3]; rfl
  revert h4
  generalize w3.setCell ⟨p, 4, none⟩ x4 = w4
  intro h4
  have h5 : (w4.setCell ⟨p, 5, none⟩ x5).heap[p]? = some (.cells #[x0, x1, x2, x3, x4, x5] t fr) := by rw [heapSet h4]; rfl
  revert h5
  generalize w4.setCell ⟨p, 5, none⟩ x5 = w5
  intro h5
  exact h5
theorem modSet6z {F : List Nat} {v w : World} {p : Nat} {x0 x1 x2 x3 x4 x5 : Value} (h : Mod F v w) (hn : p ∈ F ∨ v.heap.size ≤ p) : Mod F v ((((((w.setCell ⟨p, 0, none⟩ (x0)).setCell ⟨p, 1, none⟩ (x1)).setCell ⟨p, 2, none⟩ (x2)).setCell ⟨p, 3, none⟩ (x3)).setCell ⟨p, 4, none⟩ (x4)).setCell ⟨p, 5, none⟩ (x5)) := ((((((h).set (p := ⟨p, 0, none⟩) hn x0).set (p := ⟨p, 1, none⟩) hn x1).set (p := ⟨p, 2, none⟩) hn x2).set (p := ⟨p, 3, none⟩) hn x3).set (p := ⟨p, 4, none⟩) hn x4).set (p := ⟨p, 5, none⟩) hn x5
def OM : List Mb := [(1, [100, 0])]
def TG : List UInt8 := (tagS (0, 1, 1) 3 OM 1).1
theorem vBox6 {w W : World} {t : Nat} {a0 a1 a2 a3 a4 a5 : Value} (h : w.alloc (.cells #[a0, a1, a2, a3, a4, a5] t) = W) : W.heap[w.heap.size]? = some (.cells #[a0, a1, a2, a3, a4, a5] t (0, 0)) ∧ Mod [] w W := by
  subst h
  exact ⟨heapNew, (Mod.refl [] w).alloc _⟩
theorem load6v {w : World} {p : Nat} {K : Value → World → Prop} {x0 x1 x2 x3 x4 x5 : Value} (hh : w.heap[p]? = some (.cells #[x0, x1, x2, x3, x4, x5] 27 (0, 0))) (hK : K (.agg #[x0, x1, x2, x3, x4, x5]) w) : loadW TT 27 (.pointer (some ⟨p, 0, none⟩)) w K := by
  have c := fun o => cellOf (o := o) hh
  exact ⟨_, c 0, _, c 1, _, c 2, _, c 3, _, c 4, _, c 5, hK⟩
theorem vVerifyG_cps (kt : List Int) (σ : Sut) (vp : Nat) (aud : Int) (ks : List Tm) (S : Tm) (hS : S.length ≤ maxLen) (w : World) (hv : VerG w vp σ aud ks) (hK : KTab w kt) (hkl : ks.length ≤ 1000000) (hks : ∀ k ∈ ks, k.length ≤ 1000000) (R : Ending → World → Prop)
    (h1 : ∀ r sm st w', vfyG kt σ ks aud S = .ok r → w'.ownsRow w.heap.size 84 2 sm r.mbs.length (r.mbs.flatMap mbC) → w'.ownsRow w.heap.size 9 1 st r.tags.length (r.tags.map strV) → Mod [] w w' → R (.returned (.tuple #[rcV r sm st, .int .i64 0, .int .i64 0])) w')
    (h0 : ∀ (k : Nat) c w', vfyG kt σ ks aud S = .error (k, c) → ¬ c = 0 → Mod [] w w' → R (.returned (.tuple #[rcZ, .int .i64 k, .int .i64 c])) w') :
    Calls Tryz.prog 15 #[.pointer (some ⟨vp, 0, none⟩), .string ⟨S.toArray⟩] w R := by
  have hv0 := hv
  obtain ⟨s, ka, hB, hs, hrd⟩ := hv
  refine calls_go 4000 okT Tryz.func15 rfl (rs := [.cell 4 27, .tmp 5, .tmp 6]) rfl Tryz.ntmps15 (args := [.pointer (some ⟨vp, 0, none⟩), .string ⟨S.toArray⟩]) ?_
  simp (maxSteps := 1000000) (disch := first | omega | (simp only [sizeAlloc, sizeDrew, sizeSet, sizePut] <;> omega) | fail) only [GS, TT_eq, TTl, Nat.reduceAdd, Nat.reduceMul, Nat.reduceSub, Nat.reduceDiv, Nat.reduceMod, Nat.reducePow, Nat.reduceEqDiff, ↓reduceIte, reduceCtorEq, Int.reduceToNat, Int.reduceAdd, Int.reduceSub, Int.reduceMul]
  generalize hW : w.alloc (.cells #[.int .i64 0, .int .i64 0, .int .i64 0, .int .i64 0, .slice none 0 0, .slice none 0 0] 27) = w1
  obtain ⟨hA, hM0⟩ := vBox6 hW
  clear hW
  generalize hn : w.heap.size = n at *
  have hsz1 : n < w1.heap.size := (Array.getElem?_eq_some_iff.1 hA).1
  have hdd : ∀ e, decRc S = e → vfyG kt σ ks aud S = (match e with
    | .error c => .error (0, c)
    | .ok r => if r.aud ≠ aud then .error (0, 270) else match badF (wrgKG kt σ ks r) r.mbs.length with
      | some k => .error (k, wrgKG kt σ ks r k)
      | none => .ok r) := fun e h => by subst h; rfl
  refine ⟨fok46, eDecode_cps S hS _ _ (fun r sm st w2 hr hm ht hM2 => .inl ⟨_, rfl, hold_stop (s' := some 4) (hold_ops okT (rs := [.cell 4 27, .tmp 5, .tmp 6]) rfl ?_)⟩) (fun c w2 hc hM2 => .inl ⟨_, rfl, hold_stop (s' := some 4) (hold_ops okT (rs := [.cell 4 27, .tmp 5, .tmp 6]) rfl ?_)⟩)⟩
  rotate_left
  · have hc0 : ¬ c = 0 := by have := (decRc_err hc).1; omega
    have hv1 := hdd _ hc
    simp only at hv1
    have hA2 := hM2.get hA (by simp)
    have hM02 := hM0.trans hM2 (by simp)
    unfold rcZ
    simp (maxSteps := 1000000) (disch := first | omega | (simp only [sizeAlloc, sizeDrew, sizeSet, sizePut] <;> omega) | fail) only [GS, TT_eq, TTl, Nat.reduceAdd, Nat.reduceMul, Nat.reduceSub, Nat.reduceDiv, Nat.reduceMod, Nat.reducePow, Nat.reduceEqDiff, ↓reduceIte, reduceCtorEq, Int.reduceToNat, Int.reduceAdd, Int.reduceSub, Int.reduceMul]
    generalize hW_ : (((((((w2.alloc (.cells #[(.int .i64 0), (.int .i64 0), (.int .i64 0), (.int .i64 0), (.slice none 0 0), (.slice none 0 0)] 27)).setCell ⟨w2.heap.size, 0, none⟩ (.int .i64 0)).setCell ⟨w2.heap.size, 1, none⟩ (.int .i64 0)).setCell ⟨w2.heap.size, 2, none⟩ (.int .i64 0)).setCell ⟨w2.heap.size, 3, none⟩ (.int .i64 0)).setCell ⟨w2.heap.size, 4, none⟩ (.slice none 0 0)).setCell ⟨w2.heap.size, 5, none⟩ (.slice none 0 0)) = w3
    obtain ⟨hX, hM3⟩ : w3.heap[w2.heap.size]? = some (.cells #[(.int .i64 0), (.int .i64 0), (.int .i64 0), (.int .i64 0), (.slice none 0 0), (.slice none 0 0)] 27 (0, 0)) ∧ Mod [] w2 w3 := by
      subst hW_
      exact ⟨st6z heapNew, modSet6z ((Mod.refl [] w2).alloc _) (.inr (Nat.le_refl _))⟩
    clear hW_
    generalize hq_q : w2.heap.size = q at *
    have hA3 := hM3.get hA2 (by simp)
    have hM03 := hM02.trans hM3 (by simp)
    have ca := fun o => cellOf (o := o) hA3
    have xa := fun o => frozenOf (o := o) hA3
    refine hold_stop (s' := none) ?_
    refine hold_code okT (rs := [.cell 4 27, .tmp 5, .tmp 6]) rfl ?_
    simp (maxSteps := 1000000) (disch := first | omega | (simp only [sizeAlloc, sizeDrew, sizeSet, sizePut] <;> omega) | fail) only [GS, TT_eq, TTl, Nat.reduceAdd, Nat.reduceMul, Nat.reduceSub, Nat.reduceDiv, Nat.reduceMod, Nat.reducePow, Nat.reduceEqDiff, ↓reduceIte, reduceCtorEq, Int.reduceToNat, Int.reduceAdd, Int.reduceSub, Int.reduceMul, hc0, ca, xa]
    exact load6v (st6z hA3) (h0 0 c _ hv1 hc0 (modSet6z hM03 (.inr (by omega))))
  · have hok := of_rc hr
    have hmay := hok.2.1
    have hv1 := hdd _ hr
    have hin : ∀ w', Rd w' 2 sm r.mbs.length (r.mbs.flatMap mbC) → Rd w' 1 st r.tags.length (r.tags.map strV) → RcpIn w' r sm st := fun w' => rcpIn_of hmay
    obtain ⟨-, -, hmB, htl, -⟩ := may_is hmay
    have h1r := h1 r
    have hBl := fun w' h => eBallots2_cps r sm st w' h
    have hbl := blL_in r
    have hbC : ∀ v o, blC r v o = [.int .i64 r.tx.1, .int .i64 r.tx.2.1, .int .i64 r.tx.2.2, .int .i64 r.aud, v, .int .i64 o] := fun _ _ => rfl
    have hmd : ∀ m ∈ r.mbs, m.2.length ≤ maxLen := (hin _ (Rd.own hm) (Rd.own ht)).mdig
    have hml6 : r.mbs.length ≤ 6 := by
      unfold mbB at hmB
      rw [Bool.and_eq_true] at hmB
      have := of_decide_eq_true hmB.2
      omega
    have hmo : ∀ m ∈ r.mbs, 0 ≤ m.1 := fun m hm' => by
      unfold mbB at hmB
      rw [Bool.and_eq_true] at hmB
      have := mbs_el hmB.1 m hm'
      omega
    have hwK : ∀ k (hk : k < r.mbs.length) (hk2 : k < r.tags.length), wrgKG kt σ ks r k = wrgG kt σ ks r.tx r.aud r.mbs r.mbs[k].1 r.tags[k] := fun k hk hk2 => by
      unfold wrgKG
      rw [List.getD_eq_getElem?_getD, List.getElem?_eq_getElem hk, Option.getD_some, List.getD_eq_getElem?_getD, List.getElem?_eq_getElem hk2, Option.getD_some]
    simp only at hv1
    generalize wrgKG kt σ ks r = wk at *
    obtain ⟨⟨ra, rb, rc⟩, rau, mbs, tags⟩ := r
    unfold rcV rcC at h1r hBl ⊢
    simp only at h1r hBl hbC hin hm ht hmd htl hwK hmB hmo hml6 hv1 ⊢
    have om := ownsRow_one hm
    have ot := ownsRow_one ht
    have hA2 := hM2.get hA (by simp)
    have hM02 := hM0.trans hM2 (by simp)
    have hsz2 := hM2.size
    simp (maxSteps := 1000000) (disch := first | omega | (simp only [sizeAlloc, sizeDrew, sizeSet, sizePut] <;> omega) | fail) only [GS, TT_eq, TTl, Nat.reduceAdd, Nat.reduceMul, Nat.reduceSub, Nat.reduceDiv, Nat.reduceMod, Nat.reducePow, Nat.reduceEqDiff, ↓reduceIte, reduceCtorEq, Int.reduceToNat, Int.reduceAdd, Int.reduceSub, Int.reduceMul, cellsL_one om, om, cellsL_one ot, ot]
    generalize hW_ : (((((((w2.alloc (.cells #[(.int .i64 0), (.int .i64 0), (.int .i64 0), (.int .i64 0), (.slice none 0 0), (.slice none 0 0)] 27)).setCell ⟨w2.heap.size, 0, none⟩ (.int .i64 ra)).setCell ⟨w2.heap.size, 1, none⟩ (.int .i64 rb)).setCell ⟨w2.heap.size, 2, none⟩ (.int .i64 rc)).setCell ⟨w2.heap.size, 3, none⟩ (.int .i64 rau)).setCell ⟨w2.heap.size, 4, none⟩ sm).setCell ⟨w2.heap.size, 5, none⟩ st) = w3
    obtain ⟨hX, hM3⟩ : w3.heap[w2.heap.size]? = some (.cells #[(.int .i64 ra), (.int .i64 rb), (.int .i64 rc), (.int .i64 rau), sm, st] 27 (0, 0)) ∧ Mod [] w2 w3 := by
      subst hW_
      exact ⟨st6z heapNew, modSet6z ((Mod.refl [] w2).alloc _) (.inr (Nat.le_refl _))⟩
    clear hW_
    generalize hq_q : w2.heap.size = q at *
    have hA3 := hM3.get hA2 (by simp)
    have hM03 := hM02.trans hM3 (by simp)
    have hm3 := ownsRow_mod hm hM3 (by simp)
    have ht3 := ownsRow_mod ht hM3 (by simp)
    have hB3 := hM03.get hB (by simp)
    have ca := fun o => cellOf (o := o) hA3
    have xa := fun o => frozenOf (o := o) hA3
    have cx := fun o => cellOf (o := o) hX
    have cb := fun o => cellOf (o := o) hB3
    refine hold_stop (s' := none) ?_
    refine hold_code okT (rs := [.cell 4 27, .tmp 5, .tmp 6]) rfl ?_
    by_cases hau : rau = aud
    rotate_left
    · rw [if_pos hau] at hv1
      simp (maxSteps := 1000000) (disch := first | omega | (simp only [sizeAlloc, sizeDrew, sizeSet, sizePut] <;> omega) | fail) only [GS, TT_eq, TTl, Nat.reduceAdd, Nat.reduceMul, Nat.reduceSub, Nat.reduceDiv, Nat.reduceMod, Nat.reducePow, Nat.reduceEqDiff, ↓reduceIte, reduceCtorEq, Int.reduceToNat, Int.reduceAdd, Int.reduceSub, Int.reduceMul, ca, xa, cx, cb, hau]
      refine ⟨by kernel_rfl, fun m => ?_⟩
      exact load6v (((Mod.refl [] _).drewN m).get (st6z hA3) (by simp)) (h0 0 270 _ hv1 (by omega) ((modSet6z hM03 (.inr (by omega))).drewN m))
    · subst hau
      rw [if_neg (fun h => h rfl)] at hv1
      simp (maxSteps := 1000000) (disch := first | omega | (simp only [sizeAlloc, sizeDrew, sizeSet, sizePut] <;> omega) | fail) only [GS, TT_eq, TTl, Nat.reduceAdd, Nat.reduceMul, Nat.reduceSub, Nat.reduceDiv, Nat.reduceMod, Nat.reducePow, Nat.reduceEqDiff, ↓reduceIte, reduceCtorEq, Int.reduceToNat, Int.reduceAdd, Int.reduceSub, Int.reduceMul, cx, cb]
      refine ⟨by kernel_rfl, fun m => ?_⟩
      have hM34 := (Mod.refl [] w3).drewN m
      generalize w3.drewN m = w4 at *
      have hM04 := hM03.trans hM34 (by simp)
      have hX4 := hM34.get hX (by simp)
      have cx4 := fun o => cellOf (o := o) hX4
      have hm4 := ownsRow_mod hm3 hM34 (by simp)
      have ht4 := ownsRow_mod ht3 hM34 (by simp)
      refine ⟨fok13, hBl w4 (hin _ (Rd.own hm4) (Rd.own ht4)) _ (fun sv vs w5 _ hvl hvs hsv hM5 => .inl ⟨_, rfl, hold_ops okT (rs := [.cell 4 27, .tmp 5, .tmp 6]) rfl ?_⟩) (fun hno _ _ => absurd hmay (by rw [hno]; simp))⟩
      have osv := ownsRow_one hsv
      have hrb := Rd.own hsv
      obtain ⟨pb, cpb, rfl⟩ := hrb.slice
      have hM05 := hM04.trans hM5 (by simp)
      have hX5 := hM5.get hX4 (by simp)
      have hA5 := hM5.get (hM34.get hA3 (by simp)) (by simp)
      have hm5 := ownsRow_mod hm4 hM5 (by simp)
      have ht5 := ownsRow_mod ht4 hM5 (by simp)
      have hmr5 := Rd.own hm5
      have htr5 := Rd.own ht5
      clear hBl hM5 hX4 cx4 hm4 ht4 cx ca xa hA3 hX hm3 ht3 hB3 cb hM3 hm ht hA2 hA hM34 hM04 hM03 hM02 hM2 hdd hin
      simp (maxSteps := 1000000) (disch := first | omega | (simp only [sizeAlloc, sizeDrew, sizeSet, sizePut] <;> omega) | fail) only [GS, TT_eq, TTl, Nat.reduceAdd, Nat.reduceMul, Nat.reduceSub, Nat.reduceDiv, Nat.reduceMod, Nat.reducePow, Nat.reduceEqDiff, ↓reduceIte, reduceCtorEq, Int.reduceToNat, Int.reduceAdd, Int.reduceSub, Int.reduceMul]
      refine hold_loop okT (rs := [.cell 4 27, .tmp 5, .tmp 6]) rfl [36] [5, 6, 8, 9, 10, 37, 38, 39, 40, 41, 42, 43, 44, 45, 46, 47, 48, 49, 50, 51, 52, 53, 54] (fun vs' w' => ∃ k : Nat, k ≤ mbs.length ∧ vs' = [.int .i64 k] ∧ (∀ j, j < k → wk j = 0) ∧ Mod [] w5 w') (fun vs' _ => match vs' with | [.int _ i] => mbs.length - i.toNat | _ => 0) (by kernel_rfl) ⟨0, by omega, rfl, fun j hj => by omega, Mod.refl _ _⟩ ?_
      rintro vs' w6 J ⟨k, hk, rfl, hz, hM6⟩
      have hM06 := hM05.trans hM6 (by simp)
      have hX6 := hM6.get hX5 (by simp)
      have hA6 := hM6.get hA5 (by simp)
      by_cases hlt : k < mbs.length
      · have hlt2 : k < tags.length := by omega
        obtain ⟨bv, hbv, hcv⟩ := hbl vs mbs k hlt hvl
        rw [hbC] at hcv
        have hvr := ownsRow_mod (hvs bv hbv) hM6 (by simp)
        have obv := ownsRow_one hvr
        have hwk := hwK k hlt hlt2
        have hmo1 := hmo _ (List.getElem_mem hlt)
        obtain ⟨b0, o0, e0, ep0, _, g0⟩ := (hrb.mod hM6 (by simp)).at (by omega) (by omega)
        obtain ⟨b2, o2, e2, ep2, _, g2⟩ := (htr5.mod hM6 (by simp)).at (by omega) (by omega)
        have f2 : w6.cell? ⟨b2, o2 + k, none⟩ = some (.string ⟨(tags[k]).toArray⟩) := g2 k _ (getS hlt2)
        rw [Value.slice.injEq] at ep0
        obtain ⟨rfl, -, -⟩ := ep0
        subst ep2
        generalize mbs[k].1 = mo at *
        generalize tags[k] = tg at *
        have hcell : ∀ j u, [Value.int .i64 ra, .int .i64 rb, .int .i64 rc, .int .i64 rau, bv, .int .i64 mo][j]? = some u → j < 6 → w6.cell? ⟨b0, o0 + (k * 6 + j), none⟩ = some u := fun j u hj h6 => g0 (k * 6 + j) u (by rw [hcv j h6]; exact hj)
        have a0 : w6.cell? ⟨b0, o0 + k * 6, none⟩ = some (.int .i64 ra) := hcell 0 _ rfl (by omega)
        have a1 : w6.cell? ⟨b0, o0 + k * 6 + 1, none⟩ = some (.int .i64 rb) := hcell 1 _ rfl (by omega)
        have a2 : w6.cell? ⟨b0, o0 + k * 6 + 2, none⟩ = some (.int .i64 rc) := hcell 2 _ rfl (by omega)
        have a3 : w6.cell? ⟨b0, o0 + k * 6 + 3, none⟩ = some (.int .i64 rau) := hcell 3 _ rfl (by omega)
        have a4 : w6.cell? ⟨b0, o0 + k * 6 + 4, none⟩ = some bv := hcell 4 _ rfl (by omega)
        have a5 : w6.cell? ⟨b0, o0 + k * 6 + 5, none⟩ = some (.int .i64 mo) := hcell 5 _ rfl (by omega)
        clear g0 g2 hcell hcv
        simp (maxSteps := 1000000) (disch := first | omega | (simp only [sizeAlloc, sizeDrew, sizeSet, sizePut] <;> omega) | fail) only [GS, TT_eq, TTl, Nat.reduceAdd, Nat.reduceMul, Nat.reduceSub, Nat.reduceDiv, Nat.reduceMod, Nat.reducePow, Nat.reduceEqDiff, ↓reduceIte, reduceCtorEq, Int.reduceToNat, Int.reduceAdd, Int.reduceSub, Int.reduceMul, a0, a1, a2, a3, a4, a5, cellsL_one obv, obv]
        generalize hW_ : (((((((w6.alloc (.cells #[(.int .i64 0), (.int .i64 0), (.int .i64 0), (.int .i64 0), (.slice none 0 0), (.int .i64 0)] 45)).setCell ⟨w6.heap.size, 0, none⟩ (.int .i64 ra)).setCell ⟨w6.heap.size, 1, none⟩ (.int .i64 rb)).setCell ⟨w6.heap.size, 2, none⟩ (.int .i64 rc)).setCell ⟨w6.heap.size, 3, none⟩ (.int .i64 rau)).setCell ⟨w6.heap.size, 4, none⟩ bv).setCell ⟨w6.heap.size, 5, none⟩ (.int .i64 mo)) = w7
        obtain ⟨hY, hM7⟩ : w7.heap[w6.heap.size]? = some (.cells #[(.int .i64 ra), (.int .i64 rb), (.int .i64 rc), (.int .i64 rau), bv, (.int .i64 mo)] 45 (0, 0)) ∧ Mod [] w6 w7 := by
          subst hW_
          exact ⟨st6z heapNew, modSet6z ((Mod.refl [] w6).alloc _) (.inr (Nat.le_refl _))⟩
        clear hW_
        generalize hq_q2 : w6.heap.size = q2 at *
        refine hold_draw okT (rs := [.cell 4 27, .tmp 5, .tmp 6]) rfl [0, 0, 0, 4, 0, 28, 60, 127, 255] [0, 1, 2, 3, 4, 5, 6, 7, 8] (by kernel_rfl) (by kernel_rfl) ?_
        have hM78 := (Mod.refl [] w7).drewN 1
        generalize w7.drewN 1 = w8 at *
        have hM68 := hM7.trans hM78 (by simp)
        have hM08 := hM06.trans hM68 (by simp)
        have hX8 := hM68.get hX6 (by simp)
        have hA8 := hM68.get hA6 (by simp)
        have hY8 := hM78.get hY (by simp)
        have f8 := cellMS f2 hM68 (by simp)
        have cX := fun o => cellOf (o := o) hX8
        have cY := fun o => cellOf (o := o) hY8
        simp (maxSteps := 1000000) (disch := first | omega | (simp only [sizeAlloc, sizeDrew, sizeSet, sizePut] <;> omega) | fail) only [GS, TT_eq, TTl, Nat.reduceAdd, Nat.reduceMul, Nat.reduceSub, Nat.reduceDiv, Nat.reduceMod, Nat.reducePow, Nat.reduceEqDiff, ↓reduceIte, reduceCtorEq, Int.reduceToNat, Int.reduceAdd, Int.reduceSub, Int.reduceMul, cX, cY, f8]
        have hbr : Rd w8 2 bv mbs.length (mbs.flatMap mbC) := Rd.own (ownsRow_mod hvr hM68 (by simp))
        have hWr := vWrongG_cps kt σ vp rau ks (ra, rb, rc) rau bv mbs mo tg w8 (hv0.mod hM08) (hK.mod hM08 (by simp)) hkl hks hmo1 (by omega) hmd hbr
        unfold balV at hWr
        rw [← hwk] at hWr
        simp only at hWr
        refine ⟨fok47, hWr _ fun w9 hM9 => .inl ⟨_, rfl, ?_⟩⟩
        have hM09 := hM08.trans hM9 (by simp)
        have hM69 := hM68.trans hM9 (by simp)
        have hA9 := hM9.get hA8 (by simp)
        have cX9 := fun o => cellOf (o := o) (hM9.get hX8 (by simp))
        have cY9 := fun o => cellOf (o := o) (hM9.get hY8 (by simp))
        have f9 := cellMS f8 hM9 (by simp)
        refine hold_dops okT (rs := [.cell 4 27, .tmp 5, .tmp 6]) rfl ?_
        by_cases hwz : wk k = 0
        · simp (maxSteps := 1000000) (disch := first | omega | (simp only [sizeAlloc, sizeDrew, sizeSet, sizePut] <;> omega) | fail) only [GS, TT_eq, TTl, Nat.reduceAdd, Nat.reduceMul, Nat.reduceSub, Nat.reduceDiv, Nat.reduceMod, Nat.reducePow, Nat.reduceEqDiff, ↓reduceIte, reduceCtorEq, Int.reduceToNat, Int.reduceAdd, Int.reduceSub, Int.reduceMul, hwz]
          refine ⟨⟨k + 1, by omega, rfl, fun j hj => ?_, hM6.trans hM69 (by simp)⟩, by omega⟩
          rcases Nat.lt_or_ge j k with h | h
          · exact hz j h
          · have : j = k := by omega
            subst this
            exact hwz
        · rw [badF_at hz hwz hlt] at hv1
          simp only at hv1
          have cA9 := fun o => cellOf (o := o) hA9
          have xA9 := fun o => frozenOf (o := o) hA9
          simp (maxSteps := 1000000) (disch := first | omega | (simp only [sizeAlloc, sizeDrew, sizeSet, sizePut] <;> omega) | fail) only [GS, TT_eq, TTl, Nat.reduceAdd, Nat.reduceMul, Nat.reduceSub, Nat.reduceDiv, Nat.reduceMod, Nat.reducePow, Nat.reduceEqDiff, ↓reduceIte, reduceCtorEq, Int.reduceToNat, Int.reduceAdd, Int.reduceSub, Int.reduceMul, hwz, cA9, xA9]
          exact load6v (st6z hA9) (h0 k _ _ hv1 hwz (modSet6z hM09 (.inr (by omega))))
      · have e : k = mbs.length := by omega
        subst e
        rw [badF_of hz] at hv1
        simp only at hv1
        have cX6 := fun o => cellOf (o := o) hX6
        have cA6 := fun o => cellOf (o := o) hA6
        have xA6 := fun o => frozenOf (o := o) hA6
        have hm6 := ownsRow_mod hm5 hM6 (by simp)
        have ht6 := ownsRow_mod ht5 hM6 (by simp)
        simp (maxSteps := 1000000) (disch := first | omega | (simp only [sizeAlloc, sizeDrew, sizeSet, sizePut] <;> omega) | fail) only [GS, TT_eq, TTl, Nat.reduceAdd, Nat.reduceMul, Nat.reduceSub, Nat.reduceDiv, Nat.reduceMod, Nat.reducePow, Nat.reduceEqDiff, ↓reduceIte, reduceCtorEq, Int.reduceToNat, Int.reduceAdd, Int.reduceSub, Int.reduceMul, cX6, cA6, xA6, cellsL_one om, om, cellsL_one ot, ot]
        have hMS := modSet6z (F := [n]) (Mod.refl [n] w6) (p := n) (.inl (by simp)) (x0 := .int .i64 ra) (x1 := .int .i64 rb) (x2 := .int .i64 rc) (x3 := .int .i64 rau) (x4 := sm) (x5 := st)
        refine load6v (st6z hA6) ?_
        exact h1r _ _ _ hv1 (ownsRow_base (ownsRow_mod hm6 hMS (by simp; omega)) (by omega)) (ownsRow_base (ownsRow_mod ht6 hMS (by simp; omega)) (by omega)) (modSet6z hM06 (.inr (by omega)))
theorem vfyG_ok {kt : List Int} {σ : Sut} {ks : List Tm} {aud : Int} {S : Tm} {r : Rcp} (h : vfyG kt σ ks aud S = .ok r) : decRc S = .ok r ∧ r.aud = aud ∧ ∀ k, k < r.mbs.length → wrgKG kt σ ks r k = 0 := by
  unfold vfyG at h
  split at h
  · cases h
  · rename_i q hq
    split at h
    · cases h
    · rename_i ha
      split at h
      · cases h
      · rename_i hb
        cases h
        exact ⟨hq, by simpa using ha, badF_none hb⟩
theorem vShowsG_cps (kt : List Int) (σ : Sut) (vp : Nat) (aud : Int) (ks : List Tm) (S : Tm) (hS : S.length ≤ maxLen) (w : World) (hv : VerG w vp σ aud ks) (hK : KTab w kt) (hkl : ks.length ≤ 1000000) (hks : ∀ k ∈ ks, k.length ≤ 1000000) (r : Rcp) (hr : vfyG kt σ ks aud S = .ok r) (k : Nat) (hk : k < r.mbs.length) (R : Ending → World → Prop)
    (hR : ∀ w', Mod [] w w' → R (.returned (.tuple #[.string ⟨r.mbs[k].2.toArray⟩, .bool true])) w') :
    Calls Tryz.prog 27 #[.pointer (some ⟨vp, 0, none⟩), .string ⟨S.toArray⟩, .agg #[.int .i64 r.tx.1, .int .i64 r.tx.2.1, .int .i64 r.tx.2.2], .int .i64 r.mbs[k].1] w R := by
  have hmay := (of_rc (vfyG_ok hr).1).2.1
  have hVf := fun w h hK => vVerifyG_cps kt σ vp aud ks S hS w h hK hkl hks
  rw [hr] at hVf
  have hin : ∀ w' sm st, Rd w' 2 sm r.mbs.length (r.mbs.flatMap mbC) → Rd w' 1 st r.tags.length (r.tags.map strV) → RcpIn w' r sm st := fun w' sm st => rcpIn_of hmay
  have hNm := fun sm st org w h => eNames_cps r sm st org w h
  obtain ⟨-, -, hmB, -, -⟩ := may_is hmay
  unfold mbB at hmB
  rw [Bool.and_eq_true] at hmB
  have huq := fun i hi h => mbs_uniq hmB.1 i k hi hk h
  have hno : ¬ (mayR r = false ∨ ∀ m ∈ r.mbs, m.1 ≠ r.mbs[k].1) := by
    rintro (h | h)
    · rw [hmay] at h; simp at h
    · exact h _ (List.getElem_mem hk) rfl
  have hR' : ∀ k' (hk' : k' < r.mbs.length) w', r.mbs[k'].1 = r.mbs[k].1 → Mod [] w w' → R (.returned (.tuple #[.string ⟨r.mbs[k'].2.toArray⟩, .bool true])) w' := fun k' hk' w' h hM => by
    have := huq k' hk' h
    subst this
    exact hR w' hM
  generalize hog : r.mbs[k].1 = org at *
  obtain ⟨⟨ra, rb, rc⟩, rau, mbs, tags⟩ := r
  unfold rcV rcC at hVf hNm
  simp only at hVf hNm hin hR' ⊢
  refine calls_go 4000 okT Tryz.func27 rfl (rs := [.tmp 8, .tmp 9]) rfl Tryz.ntmps27 (args := [.pointer (some ⟨vp, 0, none⟩), .string ⟨S.toArray⟩, .agg #[.int .i64 ra, .int .i64 rb, .int .i64 rc], .int .i64 org]) ?_
  simp (maxSteps := 1000000) (disch := first | omega | (simp only [sizeAlloc, sizeDrew, sizeSet, sizePut] <;> omega) | fail) only [GS, TT_eq, TTl, Nat.reduceAdd, Nat.reduceMul, Nat.reduceSub, Nat.reduceDiv, Nat.reduceMod, Nat.reducePow, Nat.reduceEqDiff, ↓reduceIte, reduceCtorEq, Int.reduceToNat, Int.reduceAdd, Int.reduceSub, Int.reduceMul]
  have hT := heapNew (w := w) (o := .cells #[.int .i64 ra, .int .i64 rb, .int .i64 rc] 23)
  have hM0 := (Mod.refl [] w).alloc (.cells #[.int .i64 ra, .int .i64 rb, .int .i64 rc] 23)
  generalize w.alloc (.cells #[.int .i64 ra, .int .i64 rb, .int .i64 rc] 23) = w1 at *
  generalize w.heap.size = n at *
  refine ⟨fok15, hVf _ (hv.mod hM0) (hK.mod hM0 (by simp)) _ (fun r' sm st w2 hr' hm ht hM2 => .inl ⟨_, rfl, hold_stop (s' := some 2) (hold_ops okT (rs := [.tmp 8, .tmp 9]) rfl ?_)⟩) (fun k c w' h => by cases h)⟩
  cases hr'
  simp only at hm ht ⊢
  have om := ownsRow_one hm
  have ot := ownsRow_one ht
  have hM02 := hM0.trans hM2 (by simp)
  have hT2 := hM2.get hT (by simp)
  have hsz2 := hM2.size
  simp (maxSteps := 1000000) (disch := first | omega | (simp only [sizeAlloc, sizeDrew, sizeSet, sizePut] <;> omega) | fail) only [GS, TT_eq, TTl, Nat.reduceAdd, Nat.reduceMul, Nat.reduceSub, Nat.reduceDiv, Nat.reduceMod, Nat.reducePow, Nat.reduceEqDiff, ↓reduceIte, reduceCtorEq, Int.reduceToNat, Int.reduceAdd, Int.reduceSub, Int.reduceMul, cellsL_one om, om, cellsL_one ot, ot]
  generalize hW_ : (((((((w2.alloc (.cells #[(.int .i64 0), (.int .i64 0), (.int .i64 0), (.int .i64 0), (.slice none 0 0), (.slice none 0 0)] 27)).setCell ⟨w2.heap.size, 0, none⟩ (.int .i64 ra)).setCell ⟨w2.heap.size, 1, none⟩ (.int .i64 rb)).setCell ⟨w2.heap.size, 2, none⟩ (.int .i64 rc)).setCell ⟨w2.heap.size, 3, none⟩ (.int .i64 rau)).setCell ⟨w2.heap.size, 4, none⟩ sm).setCell ⟨w2.heap.size, 5, none⟩ st) = w3
  obtain ⟨hX, hM3⟩ : w3.heap[w2.heap.size]? = some (.cells #[(.int .i64 ra), (.int .i64 rb), (.int .i64 rc), (.int .i64 rau), sm, st] 27 (0, 0)) ∧ Mod [] w2 w3 := by
    subst hW_
    exact ⟨st6z heapNew, modSet6z ((Mod.refl [] w2).alloc _) (.inr (Nat.le_refl _))⟩
  clear hW_
  generalize hq_q : w2.heap.size = q at *
  have hM03 := hM02.trans hM3 (by simp)
  have hT3 := hM3.get hT2 (by simp)
  have hm3 := ownsRow_mod hm hM3 (by simp)
  have ht3 := ownsRow_mod ht hM3 (by simp)
  have cx := fun o => cellOf (o := o) hX
  have ct := fun o => cellOf (o := o) hT3
  refine hold_stop (s' := none) ?_
  refine hold_code okT (rs := [.tmp 8, .tmp 9]) rfl ?_
  simp (maxSteps := 1000000) (disch := first | omega | (simp only [sizeAlloc, sizeDrew, sizeSet, sizePut] <;> omega) | fail) only [GS, TT_eq, TTl, Nat.reduceAdd, Nat.reduceMul, Nat.reduceSub, Nat.reduceDiv, Nat.reduceMod, Nat.reducePow, Nat.reduceEqDiff, ↓reduceIte, reduceCtorEq, Int.reduceToNat, Int.reduceAdd, Int.reduceSub, Int.reduceMul, cx, ct, eq_self]
  refine ⟨fok63, hNm sm st org w3 (hin _ _ _ (Rd.own hm3) (Rd.own ht3)) _ (fun k' hk' _ w4 _ ho hM4 => .inl ⟨_, rfl, hold_ops okT (rs := [.tmp 8, .tmp 9]) rfl ?_⟩) (fun h => absurd h hno)⟩
  simp (maxSteps := 1000000) (disch := first | omega | (simp only [sizeAlloc, sizeDrew, sizeSet, sizePut] <;> omega) | fail) only [GS, TT_eq, TTl, Nat.reduceAdd, Nat.reduceMul, Nat.reduceSub, Nat.reduceDiv, Nat.reduceMod, Nat.reducePow, Nat.reduceEqDiff, ↓reduceIte, reduceCtorEq, Int.reduceToNat, Int.reduceAdd, Int.reduceSub, Int.reduceMul]
  exact hR' k' hk' _ ho (hM03.trans hM4 (by simp))
def sgnTG (kt : List Int) (σ : Sut) (r : Rcp) : List Tm := r.mbs.map fun m => (tagG kt σ r.tx r.aud r.mbs m.1).1
/-- A receipt with its ballots' tags. -/
def sgnRG (kt : List Int) (σ : Sut) (r : Rcp) : Rcp := ⟨r.tx, r.aud, r.mbs, sgnTG kt σ r⟩
theorem st1v {w : World} {p t : Nat} {fr : Nat × Nat} {a0 a1 a2 a3 a4 a5 x : Value} (h : w.heap[p]? = some (.cells #[a0, a1, a2, a3, a4, a5] t fr)) : (w.setCell ⟨p, 5, none⟩ x).heap[p]? = some (.cells #[a0, a1, a2, a3, a4, x] t fr) := by
  rw [heapSet h]
  rfl
theorem vSignedG_cps (kt : List Int) (σ : Sut) (s : Nat) (r : Rcp) (sm st : Value) (w : World) (hs : isS w s σ) (hg : KG w) (hK : KTab w kt) (hl : r.mbs.length ≤ 20) (hd : ∀ m ∈ r.mbs, m.2.length ≤ maxLen) (ha : Rd w 2 sm r.mbs.length (r.mbs.flatMap mbC)) (ost : st.oneCell' = true) (R : Ending → World → Prop)
    (hR : ∀ sv w', w'.ownsRow w.heap.size 9 1 sv r.mbs.length ((sgnTG kt σ r).map strV) → Mod [] w w' → R (.returned (rcV (sgnRG kt σ r) sm sv)) w') :
    Calls Tryz.prog 9 #[.pointer (some ⟨s, 0, none⟩), rcV r sm st] w R := by
  have hTg := fun ms org w h => bTagG_cps kt σ s r.tx r.aud ms r.mbs org w (by omega) hd h
  have hTl := fun org => tagG_len kt σ r.tx r.aud r.mbs org
  have hsT : sgnTG kt σ r = r.mbs.map fun m => (tagG kt σ r.tx r.aud r.mbs m.1).1 := rfl
  have osm : sm.oneCell' = true := by obtain ⟨a, c, e⟩ := ha.slice; rw [e]; rfl
  generalize tagG kt σ r.tx r.aud r.mbs = tg at *
  unfold sgnRG at hR
  generalize hsg : sgnTG kt σ r = sg at *
  obtain ⟨⟨ra, rb, rc⟩, rau, mbs, tags⟩ := r
  unfold rcV rcC at hR ⊢
  unfold balV at hTg
  simp only at hTg hR hsT ha hd hl ⊢
  clear hsg
  refine calls_go 4000 okT Tryz.func9 rfl (rs := [.cell 4 27]) rfl Tryz.ntmps9 (args := [.pointer (some ⟨s, 0, none⟩), .agg #[.int .i64 ra, .int .i64 rb, .int .i64 rc, .int .i64 rau, sm, st]]) ?_
  simp (maxSteps := 1000000) (disch := first | omega | (simp only [sizeAlloc, sizeDrew, sizeSet, sizePut] <;> omega) | fail) only [GS, TT_eq, TTl, Nat.reduceAdd, Nat.reduceMul, Nat.reduceSub, Nat.reduceDiv, Nat.reduceMod, Nat.reducePow, Nat.reduceEqDiff, ↓reduceIte, reduceCtorEq, Int.reduceToNat, Int.reduceAdd, Int.reduceSub, Int.reduceMul]
  generalize hW : (w.alloc (.cells #[.int .i64 ra, .int .i64 rb, .int .i64 rc, .int .i64 rau, sm, st] 27)) = w1
  have hA1 : w1.heap[w.heap.size]? = some (.cells #[.int .i64 ra, .int .i64 rb, .int .i64 rc, .int .i64 rau, sm, st] 27 (0, 0)) := by subst hW; exact heapNew
  have hM1 : Mod [] w w1 := by subst hW; exact (Mod.refl [] w).alloc _
  have hs1 : w1.heap.size = w.heap.size + 1 := by subst hW; exact sizeAlloc ..
  clear hW
  generalize hn : w.heap.size = n at *
  have hA2 := heapAlloc (o' := .cells #[.int .i64 0, .int .i64 0, .int .i64 0, .int .i64 0, .slice none 0 0, .slice none 0 0] 27) hA1
  have hZ2 := heapNew (w := w1) (o := .cells #[.int .i64 0, .int .i64 0, .int .i64 0, .int .i64 0, .slice none 0 0, .slice none 0 0] 27)
  rw [hs1] at hZ2
  have hM2 := hM1.alloc (.cells #[.int .i64 0, .int .i64 0, .int .i64 0, .int .i64 0, .slice none 0 0, .slice none 0 0] 27)
  generalize w1.alloc (.cells #[.int .i64 0, .int .i64 0, .int .i64 0, .int .i64 0, .slice none 0 0, .slice none 0 0] 27) = w2 at *
  have hA3 := st1v (x := .slice none 0 0) hA2
  have hZ3 := heapSetNe (b := n) (j := 5) (u := .slice none 0 0) hZ2 (by omega)
  have hM3 : Mod [] w (w2.setCell ⟨n, 5, none⟩ (.slice none 0 0)) := hM2.set (p := ⟨n, 5, none⟩) (.inr (by simp only; omega)) _
  generalize w2.setCell ⟨n, 5, none⟩ (.slice none 0 0) = w3 at *
  clear hA1 hM1 hs1 hA2 hZ2 hM2
  refine hold_loop okT (rs := [.cell 4 27]) rfl [5] [6, 7, 9, 10, 11, 12, 13, 14, 15, 16, 17, 18, 19, 20, 21, 22, 23, 24, 25, 26, 27, 28, 29, 30, 31, 32, 33, 34, 35, 36, 37, 38, 39, 40, 41, 42, 43] (fun vs w' => ∃ (k : Nat) (sv : Value), k ≤ mbs.length ∧ vs = [.int .i64 k] ∧ w'.heap[n]? = some (.cells #[.int .i64 ra, .int .i64 rb, .int .i64 rc, .int .i64 rau, sm, sv] 27 (0, 0)) ∧ w'.heap[n + 1]? = some (.cells #[.int .i64 0, .int .i64 0, .int .i64 0, .int .i64 0, .slice none 0 0, .slice none 0 0] 27 (0, 0)) ∧ w'.ownsRow n 9 1 sv k (((mbs.take k).map fun m => (tg m.1).1).map strV) ∧ Mod [] w w') (fun vs _ => match vs with | [.int _ i] => mbs.length - i.toNat | _ => 0) (by kernel_rfl) ⟨0, _, by omega, rfl, hA3, hZ3, World.ownsRow_nil _ _ _ _, hM3⟩ ?_
  clear hA3 hZ3 hM3
  rintro vs w4 J ⟨k, sv, hk, rfl, hA, hZ, hown, hM⟩
  have osv := ownsRow_one hown
  obtain ⟨pm, cm, rfl⟩ := ha.slice
  obtain ⟨ps, cs, rfl⟩ := (Rd.own hown).slice
  have ca := fun o => cellOf (o := o) hA
  by_cases hlt : k < mbs.length
  · obtain ⟨b1, o1, c1, e1, _, g1⟩ := (ha.mod hM (by simp)).at (by omega) (by omega)
    have hfl := fun j hj => flat_get mbC 2 mbC_len mbs k hlt j hj
    have htk := List.take_succ_eq_append_getElem hlt
    rw [Value.slice.injEq] at e1
    obtain ⟨rfl, -, -⟩ := e1
    generalize mbs[k] = m at hfl htk
    have d0 : w4.cell? ⟨b1, o1 + k * 2, none⟩ = some (.int .i64 m.1) := by rw [← g1 (k * 2) _ (hfl 0 (by omega))]
    simp (maxSteps := 1000000) (disch := first | omega | (simp only [sizeAlloc, sizeDrew, sizeSet, sizePut] <;> omega) | fail) only [GS, TT_eq, TTl, Nat.reduceAdd, Nat.reduceMul, Nat.reduceSub, Nat.reduceDiv, Nat.reduceMod, Nat.reducePow, Nat.reduceEqDiff, ↓reduceIte, reduceCtorEq, Int.reduceToNat, Int.reduceAdd, Int.reduceSub, Int.reduceMul, ca]
    refine hold_draw okT (rs := [.cell 4 27]) rfl [0, 0, 2, 0, 8, 0, 32, 0, 128, 0, 896, 1920, 3968, 8190, 16383, 32767, 65535, 65535, 131071, 524287] [0, 1, 2, 3, 4, 5, 6, 7, 8, 9, 10, 11, 12, 13, 14, 15, 16, 17, 18, 19] (by kernel_rfl) (by kernel_rfl) ?_
    have hM45 := (Mod.refl [] w4).drewN 1
    generalize w4.drewN 1 = w5 at *
    have hA5 := hM45.get hA (by simp)
    have d5 := cellMS d0 hM45 (by simp)
    have ca5 := fun o => cellOf (o := o) hA5
    have hM05 := hM.trans hM45 (by simp)
    simp (maxSteps := 1000000) (disch := first | omega | (simp only [sizeAlloc, sizeDrew, sizeSet, sizePut] <;> omega) | fail) only [GS, TT_eq, TTl, Nat.reduceAdd, Nat.reduceMul, Nat.reduceSub, Nat.reduceDiv, Nat.reduceMod, Nat.reducePow, Nat.reduceEqDiff, ↓reduceIte, reduceCtorEq, Int.reduceToNat, Int.reduceAdd, Int.reduceSub, Int.reduceMul, ca5, d5]
    refine ⟨fok28, hTg _ m.1 _ (ha.mod hM05 (by simp)) (hs.mod hM05) (hg.mod hM05 (by simp)) (hK.mod hM05 (by simp)) _ fun w6 hM6 => .inl ⟨_, rfl, ?_⟩⟩
    have hM46 := hM45.trans hM6 (by simp)
    have hM06 := hM.trans hM46 (by simp)
    have hA6 := hM6.get hA5 (by simp)
    have hZ6 := hM46.get hZ (by simp)
    have d6 := cellMS d5 hM6 (by simp)
    have ca6 := fun o => cellOf (o := o) hA6
    have hown6 := ownsRow_mod hown hM46 (by simp)
    first | refine hold_dops okT (rs := [.cell 4 27]) rfl ?_ | refine ⟨(by repeat' (first | exact ca6 _ | exact d6 | apply And.intro)), hold_dops okT (rs := [.cell 4 27]) rfl ?_⟩
    unfold stV
    simp (maxSteps := 1000000) (disch := first | omega | (simp only [sizeAlloc, sizeDrew, sizeSet, sizePut] <;> omega) | fail) only [GS, TT_eq, TTl, Nat.reduceAdd, Nat.reduceMul, Nat.reduceSub, Nat.reduceDiv, Nat.reduceMod, Nat.reducePow, Nat.reduceEqDiff, ↓reduceIte, reduceCtorEq, Int.reduceToNat, Int.reduceAdd, Int.reduceSub, Int.reduceMul, ca6]
    refine hold_append1 okT rfl rfl rfl rfl rfl n hown6 rfl rfl (u := .string ⟨(tg m.1).1.toArray⟩) rfl (by simp only; omega) (by unfold maxLen; omega) (by have := hM06.size; omega) fun v' w7 hown7 hM7 _ => hold_ops okT (rs := [.cell 4 27]) rfl ?_
    have hob : ∀ y ∈ (Value.slice ps k cs).ownBlock.toList, n ≤ y := fun y hy => (hown6.lt y (by simpa using hy)).1
    have hne : ∀ y ∈ (Value.slice ps k cs).ownBlock.toList, ∀ (c : Array Value) (z : Nat × Nat), w6.heap[y]? ≠ some (.cells c 27 z) := fun y hy c z h => own_ne hown6 h (by decide) y (by simpa using hy) rfl
    have hA7 := hM7.get hA6 (fun h => hne _ h _ _ hA6)
    have hZ7 := hM7.get hZ6 (fun h => hne _ h _ _ hZ6)
    have hM07 := hM06.trans hM7 (fun y hy => .inr (by have := hob y hy; omega))
    have ca7 := fun o => cellOf (o := o) hA7
    have xa7 := fun o => frozenOf (o := o) hA7
    have ov7 := ownsRow_one hown7
    simp (maxSteps := 1000000) (disch := first | omega | (simp only [sizeAlloc, sizeDrew, sizeSet, sizePut] <;> omega) | fail) only [GS, TT_eq, TTl, Nat.reduceAdd, Nat.reduceMul, Nat.reduceSub, Nat.reduceDiv, Nat.reduceMod, Nat.reducePow, Nat.reduceEqDiff, ↓reduceIte, reduceCtorEq, Int.reduceToNat, Int.reduceAdd, Int.reduceSub, Int.reduceMul, ca7, xa7, cellsL_one ov7, ov7]
    refine ⟨⟨k + 1, v', by omega, rfl, st1v hA7, heapSetNe (b := n) (j := 5) (u := v') hZ7 (by omega), ?_, hM07.set (p := ⟨n, 5, none⟩) (.inr (by simp only; omega)) _⟩, by omega⟩
    rw [htk, List.map_append, List.map_append]
    exact ownsRow_mod' hown7 ((Mod.refl [n] w7).set (p := ⟨n, 5, none⟩) (.inl (by simp)) _) (fun g hg' h => own_ne hown7 hA7 (by decide) g hg' (by simpa using h))
  · have e : k = mbs.length := by omega
    subst e
    rw [List.take_length, ← hsT] at hown
    have ca := fun o => cellOf (o := o) hA
    have cz := fun o => cellOf (o := o) hZ
    have xz := fun o => frozenOf (o := o) hZ
    simp (maxSteps := 1000000) (disch := first | omega | (simp only [sizeAlloc, sizeDrew, sizeSet, sizePut] <;> omega) | fail) only [GS, TT_eq, TTl, Nat.reduceAdd, Nat.reduceMul, Nat.reduceSub, Nat.reduceDiv, Nat.reduceMod, Nat.reducePow, Nat.reduceEqDiff, ↓reduceIte, reduceCtorEq, Int.reduceToNat, Int.reduceAdd, Int.reduceSub, Int.reduceMul, ca, cz, xz]
    have hMS := modSet6z (F := [n + 1]) (Mod.refl [n + 1] w4) (p := n + 1) (.inl (by simp)) (x0 := .int .i64 ra) (x1 := .int .i64 rb) (x2 := .int .i64 rc) (x3 := .int .i64 rau) (x4 := .slice pm mbs.length cm) (x5 := .slice ps mbs.length cs)
    refine load6v (st6z hZ) ?_
    exact hR _ _ (ownsRow_mod' hown hMS (fun g hg' h => own_ne hown hZ (by decide) g hg' (by simpa using h))) (modSet6z hM (.inr (by omega)))
end Go.Proofs.YtdflchgfhmjhbaaGreatDoor
