/-
  chirographref20.Decode (walk).
-/
import Derived.Test.YthnlmmkhehphiaaGreatDoorEtEnv8
set_option linter.unusedSimpArgs false
set_option linter.unusedVariables false
set_option maxRecDepth 20000
namespace Go.Proofs.YthnlmmkhehphiaaGreatDoor
open Go Go.Wk Go.RowKit
attribute [local irreducible] go Hold
open Go.Lib
theorem load7r {w : World} {p : Nat} {K : Value → World → Prop} {x0 x1 x2 x3 x4 x5 x6 : Value} (hh : w.heap[p]? = some (.cells #[x0, x1, x2, x3, x4, x5, x6] 42 (0, 0))) (hK : K (.agg #[x0, x1, x2, x3, x4, x5, x6]) w) : loadW TT 42 (.pointer (some ⟨p, 0, none⟩)) w K := by
  have c := fun o => cellOf (o := o) hh
  exact ⟨_, c 0, _, c 1, _, c 2, _, c 3, _, c 4, _, c 5, _, c 6, hK⟩
theorem rParts_u (S : List UInt8) (hS : S.length ≤ maxLen) (w : World) (R : Ending → World → Prop) (hR : ∀ v w', Rd w' 1 v (partsP S).length ((partsP S).map strV) → Mod [] w w' → R (.returned (.tuple #[v, .bool (decide (checkS S = 0))])) w') :
    Calls Tryz.prog 59 #[.string ⟨S.toArray⟩] w R := by
  unfold partsP at hR
  refine rPartsA_cps S hS w R (fun hc w' hM => ?_) (fun hc v w' ho hM => ?_)
  · rw [if_neg hc, decide_eq_false hc] at hR
    exact hR _ _ (Rd.own (World.ownsRow_nil w' 0 9 1)) hM
  · rw [if_pos hc, decide_eq_true hc] at hR
    exact hR _ _ (Rd.own ho) hM
def rdR (l : List (List UInt8)) : Ev := ⟨nR (l.getD 1 []), nR (l.getD 2 []), nR (l.getD 3 []), nR (l.getD 4 []), nR (l.getD 5 []), l.getD 6 [], l.getD 7 []⟩
theorem rdR_is {S : List UInt8} (h : isE S = true) : rdR (partsS S) = rdE S := by
  obtain ⟨hk, hl⟩ := isE_len h
  rw [isE_is hk hl] at h
  simp only [Bool.and_eq_true] at h
  have hn := numsB_is.1 h.2.1
  have e : ∀ i, i < 5 → nR ((partsS S).getD (i + 1) []) = nAt (partsS S) (i + 1) := fun i hi => by unfold nR nAt; rw [if_pos (hn i hi)]
  unfold rdR rdE rdEL
  rw [e 0 (by omega), e 1 (by omega), e 2 (by omega), e 3 (by omega), e 4 (by omega)]
theorem rdR_iff {S : List UInt8} : (encE (rdR (partsS S)) = (S, 0)) ↔ isE S = true := by
  constructor
  · intro h
    exact (is_of h).1
  · intro h
    rw [rdR_is h]
    have := is_enc h
    unfold outE at this
    rw [if_pos h] at this
    exact this
set_option maxRecDepth 20000 in
set_option maxHeartbeats 32000000 in
theorem rDecode20_cps (S : List UInt8) (hS : S.length ≤ maxLen) (w : World) (R : Ending → World → Prop) (hR : ∀ w', Mod [] w w' → R (.returned (.tuple #[evV (outE S), .int .i64 (if isE S = true then 0 else 7)])) w') :
    Calls Tryz.prog 22 #[.string ⟨S.toArray⟩] w R := by
  have hR0 : isE S = false → ∀ w', Mod [] w w' → R (.returned (.tuple #[.agg #[.int .i64 0, .int .i64 0, .int .i64 0, .int .i64 0, .int .i64 0, .string ⟨#[]⟩, .string ⟨#[]⟩], .int .i64 7])) w' := fun h w' hM => by
    have := hR w' hM
    unfold outE at this
    rw [h] at this
    exact this
  refine calls_go 4000 okT Tryz.func22 rfl (rs := [.cell 2 42, .tmp 3]) rfl Tryz.ntmps22 (args := [.string ⟨S.toArray⟩]) ?_
  simp (maxSteps := 1000000) (disch := first | omega | (simp only [sizeAlloc, sizeDrew, sizeSet, sizePut] <;> omega) | fail) only [GS, TT_eq, TTl, Nat.reduceAdd, Nat.reduceMul, Nat.reduceSub, Nat.reduceDiv, Nat.reduceMod, Nat.reducePow, Nat.reduceEqDiff, ↓reduceIte, reduceCtorEq, Int.reduceToNat, Int.reduceAdd, Int.reduceSub, Int.reduceMul]
  generalize hW : w.alloc (.cells #[.int .i64 0, .int .i64 0, .int .i64 0, .int .i64 0, .int .i64 0, .string ⟨#[]⟩, .string ⟨#[]⟩] 42) = w1
  obtain ⟨hA, hM0⟩ := bx7 hW
  clear hW
  have hge : w.heap.size ≤ w.heap.size := Nat.le_refl _
  generalize hn : w.heap.size = n at hA hge ⊢
  replace hge : w.heap.size ≤ n := by omega
  refine ⟨fok59, rParts_u S hS _ _ fun sv w2 hrd hM_ => .inl ⟨_, rfl, hold_ops okT (rs := [.cell 2 42, .tmp 3]) rfl ?_⟩⟩
  replace hA := hM_.get hA (by simp)
  replace hM0 := hM0.trans hM_ (by simp)
  clear hM_
  have hl0 : kindS S = 3 → partsP S = partsS S := partsP_kind
  generalize partsP S = l at *
  obtain ⟨a, ca, rfl⟩ := hrd.slice
  simp (maxSteps := 1000000) (disch := first | omega | (simp only [sizeAlloc, sizeDrew, sizeSet, sizePut] <;> omega) | fail) only [GS, TT_eq, TTl, Nat.reduceAdd, Nat.reduceMul, Nat.reduceSub, Nat.reduceDiv, Nat.reduceMod, Nat.reducePow, Nat.reduceEqDiff, ↓reduceIte, reduceCtorEq, Int.reduceToNat, Int.reduceAdd, Int.reduceSub, Int.reduceMul]
  refine ⟨fok60, rKindA_cps S hS _ _ fun w4 hM_ => .inl ⟨_, rfl, hold_ops okT (rs := [.cell 2 42, .tmp 3]) rfl ?_⟩⟩
  replace hA := hM_.get hA (by simp)
  replace hM0 := hM0.trans hM_ (by simp)
  replace hrd := hrd.mod hM_ (by simp)
  clear hM_
  have cA := fun o => cellOf (o := o) hA
  have xA := fun o => frozenOf (o := o) hA
  by_cases hk : kindS S = 3
  rotate_left
  · have hno : isE S = false := isE_kind (fun h => hk h.1)
    simp (maxSteps := 1000000) (disch := first | omega | (simp only [sizeAlloc, sizeDrew, sizeSet, sizePut] <;> omega) | fail) only [GS, TT_eq, TTl, Nat.reduceAdd, Nat.reduceMul, Nat.reduceSub, Nat.reduceDiv, Nat.reduceMod, Nat.reducePow, Nat.reduceEqDiff, ↓reduceIte, reduceCtorEq, Int.reduceToNat, Int.reduceAdd, Int.reduceSub, Int.reduceMul, hk, cA, xA]
    refine load7r (st7z hA) ?_
    exact hR0 hno _ (modSet7z hM0 (.inr hge))
  replace hl0 := hl0 hk
  by_cases h8 : l.length = 8
  rotate_left
  · have hno : isE S = false := isE_kind (fun h => h8 (by rw [hl0]; exact h.2))
    simp (maxSteps := 1000000) (disch := first | omega | (simp only [sizeAlloc, sizeDrew, sizeSet, sizePut] <;> omega) | fail) only [GS, TT_eq, TTl, Nat.reduceAdd, Nat.reduceMul, Nat.reduceSub, Nat.reduceDiv, Nat.reduceMod, Nat.reducePow, Nat.reduceEqDiff, ↓reduceIte, reduceCtorEq, Int.reduceToNat, Int.reduceAdd, Int.reduceSub, Int.reduceMul, hk, h8, cA, xA]
    refine load7r (st7z hA) ?_
    exact hR0 hno _ (modSet7z hM0 (.inr hge))
  have hle : ∀ i, (l.getD i []).length ≤ maxLen := fun i => by
    by_cases hi : i < l.length
    · rw [List.getD_eq_getElem?_getD, List.getElem?_eq_getElem hi, Option.getD_some]
      have := (check0 (parts_ok (kind_chk hk (by decide)) _ (by rw [← hl0]; exact List.getElem_mem hi))).2.2.1
      unfold maxLen; omega
    · rw [List.getD_eq_getElem?_getD, List.getElem?_eq_none (by omega)]; simp
  have hNu := fun k (hk : k < 8) v w h => rNumber_cps v l k (by omega) (by omega) (hle k) w h
  have hEn := rEnc20_cps (rdR l) ⟨hle 6, hle 7⟩
  have hiff := @rdR_iff S
  have hrr := @rdR_is S
  rw [← hl0] at hiff hrr
  generalize hq : encE (rdR l) = q at *
  obtain ⟨Y, E⟩ := q
  have hyes : isE S = true → ∀ w', Mod [] w w' → R (.returned (.tuple #[.agg #[.int .i64 (nR (l.getD 1 [])), .int .i64 (nR (l.getD 2 [])), .int .i64 (nR (l.getD 3 [])), .int .i64 (nR (l.getD 4 [])), .int .i64 (nR (l.getD 5 [])), .string ⟨(l.getD 6 []).toArray⟩, .string ⟨(l.getD 7 []).toArray⟩], .int .i64 0])) w' := fun h w' hM => by
    have := hR w' hM
    unfold outE at this
    rw [if_pos h, h, ← hrr h] at this
    exact this
  unfold evV evC rdR stV at hEn
  simp only at hEn
  clear hrr hR hq
  obtain ⟨b1, o1, c1, e1, _, g1⟩ := hrd.at (by omega) (by omega)
  rw [Value.slice.injEq] at e1
  obtain ⟨rfl, -, rfl⟩ := e1
  have hgt : ∀ i, i < 8 → w4.cell? ⟨b1, o1 + i, none⟩ = some (.string ⟨(l.getD i []).toArray⟩) := fun i hi => by
    refine g1 i _ ?_
    rw [List.getElem?_map, List.getD_eq_getElem?_getD, List.getElem?_eq_getElem (show i < l.length by omega)]
    rfl
  have d6 := hgt 6 (by omega)
  have d7 := hgt 7 (by omega)
  have hN1 := hNu 1 (by omega)
  have hN2 := hNu 2 (by omega)
  have hN3 := hNu 3 (by omega)
  have hN4 := hNu 4 (by omega)
  have hN5 := hNu 5 (by omega)
  rw [h8] at hN1 hN2 hN3 hN4 hN5 hrd
  clear hgt g1 hNu cA xA hl0
  generalize l.getD 1 [] = L1 at *
  generalize l.getD 2 [] = L2 at *
  generalize l.getD 3 [] = L3 at *
  generalize l.getD 4 [] = L4 at *
  generalize l.getD 5 [] = L5 at *
  generalize l.getD 6 [] = L6 at *
  generalize l.getD 7 [] = L7 at *
  simp (maxSteps := 1000000) (disch := first | omega | (simp only [sizeAlloc, sizeDrew, sizeSet, sizePut] <;> omega) | fail) only [GS, TT_eq, TTl, Nat.reduceAdd, Nat.reduceMul, Nat.reduceSub, Nat.reduceDiv, Nat.reduceMod, Nat.reducePow, Nat.reduceEqDiff, ↓reduceIte, reduceCtorEq, Int.reduceToNat, Int.reduceAdd, Int.reduceSub, Int.reduceMul, hk, h8]
  refine hold_tree okT [0, 1, 0, 7, 0, 31, 0, 127, 0, 511, 0, 1024, 3072, 0, 8192, 24576, 65535, 0, 262143] (.qop 0 (.qop 2 (.qop 4 (.qop 6 (.qop 8 (.qop 10 (.qop 11 (.qop 12 (.qop 13 (.qop 14 (.qop 15 (.eff 1 (.eff 3 (.eff 5 (.eff 7 (.eff 9 (.lin [16, 17, 18]) (.eff 17 (.lin [9, 16, 18]) .stop)) (.eff 17 (.lin [7, 9, 16, 18]) .stop)) (.eff 17 (.lin [5, 7, 9, 16, 18]) .stop)) (.eff 17 (.lin [3, 5, 7, 9, 16, 18]) .stop)) (.eff 17 (.lin [1, 3, 5, 7, 9, 16, 18]) .stop))))))))))))) (by kernel_rfl) ?_
  have hM_ := (Mod.refl [] w4).drewN 1
  generalize w4.drewN 1 = w5 at *
  replace hA := hM_.get hA (by simp)
  replace hM0 := hM0.trans hM_ (by simp)
  replace hrd := hrd.mod hM_ (by simp)
  replace d6 := cellMS14 d6 hM_ (by simp)
  replace d7 := cellMS14 d7 hM_ (by simp)
  clear hM_
  refine ht_val okT rfl rfl (v := .slice (some ⟨b1, o1, none⟩) 8 ca) (by simp (maxSteps := 1000000) only [GS, TT_eq, TTl, Nat.reduceAdd, Nat.reduceMul, Nat.reduceSub, Nat.reduceDiv, Nat.reduceMod, Nat.reducePow, Nat.reduceEqDiff, ↓reduceIte, reduceCtorEq, Int.reduceToNat, Int.reduceAdd, Int.reduceSub, Int.reduceMul]) ?_
  refine ht_val okT rfl rfl (v := .slice (some ⟨b1, o1, none⟩) 8 ca) (by simp (maxSteps := 1000000) only [GS, TT_eq, TTl, Nat.reduceAdd, Nat.reduceMul, Nat.reduceSub, Nat.reduceDiv, Nat.reduceMod, Nat.reducePow, Nat.reduceEqDiff, ↓reduceIte, reduceCtorEq, Int.reduceToNat, Int.reduceAdd, Int.reduceSub, Int.reduceMul]) ?_
  refine ht_val okT rfl rfl (v := .slice (some ⟨b1, o1, none⟩) 8 ca) (by simp (maxSteps := 1000000) only [GS, TT_eq, TTl, Nat.reduceAdd, Nat.reduceMul, Nat.reduceSub, Nat.reduceDiv, Nat.reduceMod, Nat.reducePow, Nat.reduceEqDiff, ↓reduceIte, reduceCtorEq, Int.reduceToNat, Int.reduceAdd, Int.reduceSub, Int.reduceMul]) ?_
  refine ht_val okT rfl rfl (v := .slice (some ⟨b1, o1, none⟩) 8 ca) (by simp (maxSteps := 1000000) only [GS, TT_eq, TTl, Nat.reduceAdd, Nat.reduceMul, Nat.reduceSub, Nat.reduceDiv, Nat.reduceMod, Nat.reducePow, Nat.reduceEqDiff, ↓reduceIte, reduceCtorEq, Int.reduceToNat, Int.reduceAdd, Int.reduceSub, Int.reduceMul]) ?_
  refine ht_val okT rfl rfl (v := .slice (some ⟨b1, o1, none⟩) 8 ca) (by simp (maxSteps := 1000000) only [GS, TT_eq, TTl, Nat.reduceAdd, Nat.reduceMul, Nat.reduceSub, Nat.reduceDiv, Nat.reduceMod, Nat.reducePow, Nat.reduceEqDiff, ↓reduceIte, reduceCtorEq, Int.reduceToNat, Int.reduceAdd, Int.reduceSub, Int.reduceMul]) ?_
  refine ht_val okT rfl rfl (v := .slice (some ⟨b1, o1, none⟩) 8 ca) (by simp (maxSteps := 1000000) only [GS, TT_eq, TTl, Nat.reduceAdd, Nat.reduceMul, Nat.reduceSub, Nat.reduceDiv, Nat.reduceMod, Nat.reducePow, Nat.reduceEqDiff, ↓reduceIte, reduceCtorEq, Int.reduceToNat, Int.reduceAdd, Int.reduceSub, Int.reduceMul]) ?_
  refine ht_val okT rfl rfl (v := .pointer (some ⟨b1, o1 + 6, none⟩)) (by simp (maxSteps := 1000000) (disch := first | omega | (simp only [sizeAlloc, sizeDrew, sizeSet, sizePut] <;> omega) | fail) only [GS, TT_eq, TTl, Nat.reduceAdd, Nat.reduceMul, Nat.reduceSub, Nat.reduceDiv, Nat.reduceMod, Nat.reducePow, Nat.reduceEqDiff, ↓reduceIte, reduceCtorEq, Int.reduceToNat, Int.reduceAdd, Int.reduceSub, Int.reduceMul]) ?_
  refine ht_val okT rfl rfl (v := .string ⟨L6.toArray⟩) (by simp (maxSteps := 1000000) (disch := first | omega | (simp only [sizeAlloc, sizeDrew, sizeSet, sizePut] <;> omega) | fail) only [GS, TT_eq, TTl, Nat.reduceAdd, Nat.reduceMul, Nat.reduceSub, Nat.reduceDiv, Nat.reduceMod, Nat.reducePow, Nat.reduceEqDiff, ↓reduceIte, reduceCtorEq, Int.reduceToNat, Int.reduceAdd, Int.reduceSub, Int.reduceMul, d6]) ?_
  refine ht_val okT rfl rfl (v := .slice (some ⟨b1, o1, none⟩) 8 ca) (by simp (maxSteps := 1000000) only [GS, TT_eq, TTl, Nat.reduceAdd, Nat.reduceMul, Nat.reduceSub, Nat.reduceDiv, Nat.reduceMod, Nat.reducePow, Nat.reduceEqDiff, ↓reduceIte, reduceCtorEq, Int.reduceToNat, Int.reduceAdd, Int.reduceSub, Int.reduceMul]) ?_
  refine ht_val okT rfl rfl (v := .pointer (some ⟨b1, o1 + 7, none⟩)) (by simp (maxSteps := 1000000) (disch := first | omega | (simp only [sizeAlloc, sizeDrew, sizeSet, sizePut] <;> omega) | fail) only [GS, TT_eq, TTl, Nat.reduceAdd, Nat.reduceMul, Nat.reduceSub, Nat.reduceDiv, Nat.reduceMod, Nat.reducePow, Nat.reduceEqDiff, ↓reduceIte, reduceCtorEq, Int.reduceToNat, Int.reduceAdd, Int.reduceSub, Int.reduceMul]) ?_
  refine ht_val okT rfl rfl (v := .string ⟨L7.toArray⟩) (by simp (maxSteps := 1000000) (disch := first | omega | (simp only [sizeAlloc, sizeDrew, sizeSet, sizePut] <;> omega) | fail) only [GS, TT_eq, TTl, Nat.reduceAdd, Nat.reduceMul, Nat.reduceSub, Nat.reduceDiv, Nat.reduceMod, Nat.reducePow, Nat.reduceEqDiff, ↓reduceIte, reduceCtorEq, Int.reduceToNat, Int.reduceAdd, Int.reduceSub, Int.reduceMul, d7]) ?_
  simp (maxSteps := 1000000) only [GS, TT_eq, TTl, Nat.reduceAdd, Nat.reduceMul, Nat.reduceSub, Nat.reduceDiv, Nat.reduceMod, Nat.reducePow, Nat.reduceEqDiff, ↓reduceIte, reduceCtorEq, Int.reduceToNat, Int.reduceAdd, Int.reduceSub, Int.reduceMul]
  refine ht_call okT rfl rfl ?_ ?_
  · simp (maxSteps := 1000000) (disch := first | omega | (simp only [sizeAlloc, sizeDrew, sizeSet, sizePut] <;> omega) | fail) only [GS, TT_eq, TTl, Nat.reduceAdd, Nat.reduceMul, Nat.reduceSub, Nat.reduceDiv, Nat.reduceMod, Nat.reducePow, Nat.reduceEqDiff, ↓reduceIte, reduceCtorEq, Int.reduceToNat, Int.reduceAdd, Int.reduceSub, Int.reduceMul]
    refine ⟨fok61, hN1 _ _ _ hrd fun w31 hM_ => .inl ⟨_, rfl, ⟨cellMS14 d7 hM_ (by simp), cellMS14 d6 hM_ (by simp)⟩, ?_⟩⟩
    replace hA := hM_.get hA (by simp)
    replace hM0 := hM0.trans hM_ (by simp)
    replace hrd := hrd.mod hM_ (by simp)
    replace d6 := cellMS14 d6 hM_ (by simp)
    replace d7 := cellMS14 d7 hM_ (by simp)
    clear hM_
    refine ht_call okT rfl rfl ?_ ?_
    · simp (maxSteps := 1000000) (disch := first | omega | (simp only [sizeAlloc, sizeDrew, sizeSet, sizePut] <;> omega) | fail) only [GS, TT_eq, TTl, Nat.reduceAdd, Nat.reduceMul, Nat.reduceSub, Nat.reduceDiv, Nat.reduceMod, Nat.reducePow, Nat.reduceEqDiff, ↓reduceIte, reduceCtorEq, Int.reduceToNat, Int.reduceAdd, Int.reduceSub, Int.reduceMul]
      refine ⟨fok61, hN2 _ _ _ hrd fun w32 hM_ => .inl ⟨_, rfl, ⟨cellMS14 d7 hM_ (by simp), cellMS14 d6 hM_ (by simp)⟩, ?_⟩⟩
      replace hA := hM_.get hA (by simp)
      replace hM0 := hM0.trans hM_ (by simp)
      replace hrd := hrd.mod hM_ (by simp)
      replace d6 := cellMS14 d6 hM_ (by simp)
      replace d7 := cellMS14 d7 hM_ (by simp)
      clear hM_
      refine ht_call okT rfl rfl ?_ ?_
      · simp (maxSteps := 1000000) (disch := first | omega | (simp only [sizeAlloc, sizeDrew, sizeSet, sizePut] <;> omega) | fail) only [GS, TT_eq, TTl, Nat.reduceAdd, Nat.reduceMul, Nat.reduceSub, Nat.reduceDiv, Nat.reduceMod, Nat.reducePow, Nat.reduceEqDiff, ↓reduceIte, reduceCtorEq, Int.reduceToNat, Int.reduceAdd, Int.reduceSub, Int.reduceMul]
        refine ⟨fok61, hN3 _ _ _ hrd fun w33 hM_ => .inl ⟨_, rfl, ⟨cellMS14 d7 hM_ (by simp), cellMS14 d6 hM_ (by simp)⟩, ?_⟩⟩
        replace hA := hM_.get hA (by simp)
        replace hM0 := hM0.trans hM_ (by simp)
        replace hrd := hrd.mod hM_ (by simp)
        replace d6 := cellMS14 d6 hM_ (by simp)
        replace d7 := cellMS14 d7 hM_ (by simp)
        clear hM_
        refine ht_call okT rfl rfl ?_ ?_
        · simp (maxSteps := 1000000) (disch := first | omega | (simp only [sizeAlloc, sizeDrew, sizeSet, sizePut] <;> omega) | fail) only [GS, TT_eq, TTl, Nat.reduceAdd, Nat.reduceMul, Nat.reduceSub, Nat.reduceDiv, Nat.reduceMod, Nat.reducePow, Nat.reduceEqDiff, ↓reduceIte, reduceCtorEq, Int.reduceToNat, Int.reduceAdd, Int.reduceSub, Int.reduceMul]
          refine ⟨fok61, hN4 _ _ _ hrd fun w34 hM_ => .inl ⟨_, rfl, ⟨cellMS14 d7 hM_ (by simp), cellMS14 d6 hM_ (by simp)⟩, ?_⟩⟩
          replace hA := hM_.get hA (by simp)
          replace hM0 := hM0.trans hM_ (by simp)
          replace hrd := hrd.mod hM_ (by simp)
          replace d6 := cellMS14 d6 hM_ (by simp)
          replace d7 := cellMS14 d7 hM_ (by simp)
          clear hM_
          refine ht_call okT rfl rfl ?_ ?_
          · simp (maxSteps := 1000000) (disch := first | omega | (simp only [sizeAlloc, sizeDrew, sizeSet, sizePut] <;> omega) | fail) only [GS, TT_eq, TTl, Nat.reduceAdd, Nat.reduceMul, Nat.reduceSub, Nat.reduceDiv, Nat.reduceMod, Nat.reducePow, Nat.reduceEqDiff, ↓reduceIte, reduceCtorEq, Int.reduceToNat, Int.reduceAdd, Int.reduceSub, Int.reduceMul]
            refine ⟨fok61, hN5 _ _ _ hrd fun w35 hM_ => .inl ⟨_, rfl, ⟨cellMS14 d7 hM_ (by simp), cellMS14 d6 hM_ (by simp)⟩, ?_⟩⟩
            replace hA := hM_.get hA (by simp)
            replace hM0 := hM0.trans hM_ (by simp)
            replace hrd := hrd.mod hM_ (by simp)
            replace d6 := cellMS14 d6 hM_ (by simp)
            replace d7 := cellMS14 d7 hM_ (by simp)
            clear hM_
            refine ht_lin rfl (hold_dops okT (rs := [.cell 2 42, .tmp 3]) rfl ?_)
            simp (maxSteps := 1000000) (disch := first | omega | (simp only [sizeAlloc, sizeDrew, sizeSet, sizePut] <;> omega) | fail) only [GS, TT_eq, TTl, Nat.reduceAdd, Nat.reduceMul, Nat.reduceSub, Nat.reduceDiv, Nat.reduceMod, Nat.reducePow, Nat.reduceEqDiff, ↓reduceIte, reduceCtorEq, Int.reduceToNat, Int.reduceAdd, Int.reduceSub, Int.reduceMul]
            have hM_ := (Mod.refl [] w35).alloc (.cells #[.int .i64 0, .int .i64 0, .int .i64 0, .int .i64 0, .int .i64 0, .string ⟨#[]⟩, .string ⟨#[]⟩] 42)
            have hcs := st7z (heapNew (w := w35) (o := (.cells #[.int .i64 0, .int .i64 0, .int .i64 0, .int .i64 0, .int .i64 0, .string ⟨#[]⟩, .string ⟨#[]⟩] 42))) (x0 := .int .i64 (nR L1)) (x1 := .int .i64 (nR L2)) (x2 := .int .i64 (nR L3)) (x3 := .int .i64 (nR L4)) (x4 := .int .i64 (nR L5)) (x5 := .string ⟨L6.toArray⟩) (x6 := .string ⟨L7.toArray⟩)
            have hwb := hM0.size
            have hnb : n < w35.heap.size := (Array.getElem?_eq_some_iff.1 hA).1
            have hbs : ((((((((w35.alloc (.cells #[.int .i64 0, .int .i64 0, .int .i64 0, .int .i64 0, .int .i64 0, .string ⟨#[]⟩, .string ⟨#[]⟩] 42)).setCell ⟨w35.heap.size, 0, none⟩ (.int .i64 (nR L1))).setCell ⟨w35.heap.size, 1, none⟩ (.int .i64 (nR L2))).setCell ⟨w35.heap.size, 2, none⟩ (.int .i64 (nR L3))).setCell ⟨w35.heap.size, 3, none⟩ (.int .i64 (nR L4))).setCell ⟨w35.heap.size, 4, none⟩ (.int .i64 (nR L5))).setCell ⟨w35.heap.size, 5, none⟩ (.string ⟨L6.toArray⟩)).setCell ⟨w35.heap.size, 6, none⟩ (.string ⟨L7.toArray⟩)).heap[n]? = _ := setNe7z (hM_.get hA (by simp)) (by omega)
            have hMs : Mod [] w ((((((((w35.alloc (.cells #[.int .i64 0, .int .i64 0, .int .i64 0, .int .i64 0, .int .i64 0, .string ⟨#[]⟩, .string ⟨#[]⟩] 42)).setCell ⟨w35.heap.size, 0, none⟩ (.int .i64 (nR L1))).setCell ⟨w35.heap.size, 1, none⟩ (.int .i64 (nR L2))).setCell ⟨w35.heap.size, 2, none⟩ (.int .i64 (nR L3))).setCell ⟨w35.heap.size, 3, none⟩ (.int .i64 (nR L4))).setCell ⟨w35.heap.size, 4, none⟩ (.int .i64 (nR L5))).setCell ⟨w35.heap.size, 5, none⟩ (.string ⟨L6.toArray⟩)).setCell ⟨w35.heap.size, 6, none⟩ (.string ⟨L7.toArray⟩)) := modSet7z (hM0.trans hM_ (by simp)) (.inr hwb)
            generalize ((((((((w35.alloc (.cells #[.int .i64 0, .int .i64 0, .int .i64 0, .int .i64 0, .int .i64 0, .string ⟨#[]⟩, .string ⟨#[]⟩] 42)).setCell ⟨w35.heap.size, 0, none⟩ (.int .i64 (nR L1))).setCell ⟨w35.heap.size, 1, none⟩ (.int .i64 (nR L2))).setCell ⟨w35.heap.size, 2, none⟩ (.int .i64 (nR L3))).setCell ⟨w35.heap.size, 3, none⟩ (.int .i64 (nR L4))).setCell ⟨w35.heap.size, 4, none⟩ (.int .i64 (nR L5))).setCell ⟨w35.heap.size, 5, none⟩ (.string ⟨L6.toArray⟩)).setCell ⟨w35.heap.size, 6, none⟩ (.string ⟨L7.toArray⟩)) = w20 at hcs hbs hMs ⊢
            generalize hb4 : w35.heap.size = b4 at hnb hwb hcs ⊢
            refine ⟨⟨cellMS14 d7 hM_ (by simp), cellMS14 d6 hM_ (by simp)⟩, ?_⟩
            refine ⟨fok20, hEn _ _ fun w21 hM_ => .inl ⟨_, rfl, hold_ops okT (rs := [.cell 2 42, .tmp 3]) rfl ?_⟩⟩
            replace hcs := hM_.get hcs (by simp)
            replace hbs := hM_.get hbs (by simp)
            replace hMs := hMs.trans hM_ (by simp)
            clear hM_
            have cc := fun o => cellOf (o := o) hcs
            have cA := fun o => cellOf (o := o) hbs
            have xA := fun o => frozenOf (o := o) hbs
            by_cases hE : E = 0
            · subst hE
              by_cases hY : Y = S
              · subst hY
                simp (maxSteps := 1000000) (disch := first | omega | (simp only [sizeAlloc, sizeDrew, sizeSet, sizePut] <;> omega) | fail) only [GS, TT_eq, TTl, Nat.reduceAdd, Nat.reduceMul, Nat.reduceSub, Nat.reduceDiv, Nat.reduceMod, Nat.reducePow, Nat.reduceEqDiff, ↓reduceIte, reduceCtorEq, Int.reduceToNat, Int.reduceAdd, Int.reduceSub, Int.reduceMul, eq_self, cc, cA, xA]
                refine load7r (st7z hbs) ?_
                exact hyes (hiff.1 rfl) _ (modSet7z hMs (.inr hge))
              · have hno : isE S = false := by rw [Bool.eq_false_iff]; intro h; exact hY (congrArg Prod.fst (hiff.2 h))
                simp (maxSteps := 1000000) (disch := first | omega | (simp only [sizeAlloc, sizeDrew, sizeSet, sizePut] <;> omega) | fail) only [GS, TT_eq, TTl, Nat.reduceAdd, Nat.reduceMul, Nat.reduceSub, Nat.reduceDiv, Nat.reduceMod, Nat.reducePow, Nat.reduceEqDiff, ↓reduceIte, reduceCtorEq, Int.reduceToNat, Int.reduceAdd, Int.reduceSub, Int.reduceMul, hY, cA, xA]
                refine load7r (st7z hbs) ?_
                exact hR0 hno _ (modSet7z hMs (.inr hge))
            · have hno : isE S = false := by rw [Bool.eq_false_iff]; intro h; exact hE (congrArg Prod.snd (hiff.2 h))
              simp (maxSteps := 1000000) (disch := first | omega | (simp only [sizeAlloc, sizeDrew, sizeSet, sizePut] <;> omega) | fail) only [GS, TT_eq, TTl, Nat.reduceAdd, Nat.reduceMul, Nat.reduceSub, Nat.reduceDiv, Nat.reduceMod, Nat.reducePow, Nat.reduceEqDiff, ↓reduceIte, reduceCtorEq, Int.reduceToNat, Int.reduceAdd, Int.reduceSub, Int.reduceMul, hE, cA, xA]
              refine load7r (st7z hbs) ?_
              exact hR0 hno _ (modSet7z hMs (.inr hge))
          · refine ht_eff okT rfl rfl (v := .pointer (some ⟨w34.heap.size, 0, none⟩)) (w' := w34.alloc (.cells #[.int .i64 0, .int .i64 0, .int .i64 0, .int .i64 0, .int .i64 0, .string ⟨#[]⟩, .string ⟨#[]⟩] 42)) (by simp (maxSteps := 1000000) only [GS, TT_eq, TTl, Nat.reduceAdd, Nat.reduceMul, Nat.reduceSub, Nat.reduceDiv, Nat.reduceMod, Nat.reducePow, Nat.reduceEqDiff, ↓reduceIte, reduceCtorEq, Int.reduceToNat, Int.reduceAdd, Int.reduceSub, Int.reduceMul]) ?_ ?_ ht_stop
            all_goals have hM_ := (Mod.refl [] w34).alloc (.cells #[.int .i64 0, .int .i64 0, .int .i64 0, .int .i64 0, .int .i64 0, .string ⟨#[]⟩, .string ⟨#[]⟩] 42)
            all_goals have hc := heapNew (w := w34) (o := (.cells #[.int .i64 0, .int .i64 0, .int .i64 0, .int .i64 0, .int .i64 0, .string ⟨#[]⟩, .string ⟨#[]⟩] 42))
            all_goals generalize w34.alloc (.cells #[.int .i64 0, .int .i64 0, .int .i64 0, .int .i64 0, .int .i64 0, .string ⟨#[]⟩, .string ⟨#[]⟩] 42) = w36 at hM_ hc ⊢
            · simp (maxSteps := 1000000) only [GS, TT_eq, TTl, Nat.reduceAdd, Nat.reduceMul, Nat.reduceSub, Nat.reduceDiv, Nat.reduceMod, Nat.reducePow, Nat.reduceEqDiff, ↓reduceIte, reduceCtorEq, Int.reduceToNat, Int.reduceAdd, Int.reduceSub, Int.reduceMul]
              exact ⟨cellMS14 d7 hM_ (by simp), cellMS14 d6 hM_ (by simp)⟩
            have hnb : n < w34.heap.size := (Array.getElem?_eq_some_iff.1 hA).1
            have hwb := hM0.size
            replace hA := hM_.get hA (by simp)
            replace hM0 := hM0.trans hM_ (by simp)
            replace hrd := hrd.mod hM_ (by simp)
            replace d6 := cellMS14 d6 hM_ (by simp)
            replace d7 := cellMS14 d7 hM_ (by simp)
            clear hM_
            generalize w34.heap.size = b4 at hnb hwb hc ⊢
            simp (maxSteps := 1000000) only [GS, TT_eq, TTl, Nat.reduceAdd, Nat.reduceMul, Nat.reduceSub, Nat.reduceDiv, Nat.reduceMod, Nat.reducePow, Nat.reduceEqDiff, ↓reduceIte, reduceCtorEq, Int.reduceToNat, Int.reduceAdd, Int.reduceSub, Int.reduceMul]
            refine ht_lin rfl (hold_dops okT (rs := [.cell 2 42, .tmp 3]) rfl ?_)
            simp (maxSteps := 1000000) (disch := first | omega | (simp only [sizeAlloc, sizeDrew, sizeSet, sizePut] <;> omega) | fail) only [GS, TT_eq, TTl, Nat.reduceAdd, Nat.reduceMul, Nat.reduceSub, Nat.reduceDiv, Nat.reduceMod, Nat.reducePow, Nat.reduceEqDiff, ↓reduceIte, reduceCtorEq, Int.reduceToNat, Int.reduceAdd, Int.reduceSub, Int.reduceMul]
            refine ⟨fok61, hN5 _ _ _ hrd fun w37 hM_ => .inl ⟨_, rfl, ⟨cellMS14 d7 hM_ (by simp), cellMS14 d6 hM_ (by simp)⟩, hold_dops okT (rs := [.cell 2 42, .tmp 3]) rfl ?_⟩⟩
            replace hA := hM_.get hA (by simp)
            replace hM0 := hM0.trans hM_ (by simp)
            replace hrd := hrd.mod hM_ (by simp)
            replace d6 := cellMS14 d6 hM_ (by simp)
            replace d7 := cellMS14 d7 hM_ (by simp)
            replace hc := hM_.get hc (by simp)
            clear hM_
            have cc := fun o => cellOf (o := o) hc
            have xc := fun o => frozenOf (o := o) hc
            simp (maxSteps := 1000000) (disch := first | omega | (simp only [sizeAlloc, sizeDrew, sizeSet, sizePut] <;> omega) | fail) only [GS, TT_eq, TTl, Nat.reduceAdd, Nat.reduceMul, Nat.reduceSub, Nat.reduceDiv, Nat.reduceMod, Nat.reducePow, Nat.reduceEqDiff, ↓reduceIte, reduceCtorEq, Int.reduceToNat, Int.reduceAdd, Int.reduceSub, Int.reduceMul, cc, xc]
            have hcs := st7z hc (x0 := .int .i64 (nR L1)) (x1 := .int .i64 (nR L2)) (x2 := .int .i64 (nR L3)) (x3 := .int .i64 (nR L4)) (x4 := .int .i64 (nR L5)) (x5 := .string ⟨L6.toArray⟩) (x6 := .string ⟨L7.toArray⟩)
            have hbs : (((((((w37.setCell ⟨b4, 0, none⟩ (.int .i64 (nR L1))).setCell ⟨b4, 1, none⟩ (.int .i64 (nR L2))).setCell ⟨b4, 2, none⟩ (.int .i64 (nR L3))).setCell ⟨b4, 3, none⟩ (.int .i64 (nR L4))).setCell ⟨b4, 4, none⟩ (.int .i64 (nR L5))).setCell ⟨b4, 5, none⟩ (.string ⟨L6.toArray⟩)).setCell ⟨b4, 6, none⟩ (.string ⟨L7.toArray⟩)).heap[n]? = _ := setNe7z hA (by omega)
            have hMs : Mod [] w (((((((w37.setCell ⟨b4, 0, none⟩ (.int .i64 (nR L1))).setCell ⟨b4, 1, none⟩ (.int .i64 (nR L2))).setCell ⟨b4, 2, none⟩ (.int .i64 (nR L3))).setCell ⟨b4, 3, none⟩ (.int .i64 (nR L4))).setCell ⟨b4, 4, none⟩ (.int .i64 (nR L5))).setCell ⟨b4, 5, none⟩ (.string ⟨L6.toArray⟩)).setCell ⟨b4, 6, none⟩ (.string ⟨L7.toArray⟩)) := modSet7z hM0 (.inr hwb)
            generalize (((((((w37.setCell ⟨b4, 0, none⟩ (.int .i64 (nR L1))).setCell ⟨b4, 1, none⟩ (.int .i64 (nR L2))).setCell ⟨b4, 2, none⟩ (.int .i64 (nR L3))).setCell ⟨b4, 3, none⟩ (.int .i64 (nR L4))).setCell ⟨b4, 4, none⟩ (.int .i64 (nR L5))).setCell ⟨b4, 5, none⟩ (.string ⟨L6.toArray⟩)).setCell ⟨b4, 6, none⟩ (.string ⟨L7.toArray⟩)) = w20 at hcs hbs hMs ⊢
            refine ⟨fok20, hEn _ _ fun w21 hM_ => .inl ⟨_, rfl, hold_ops okT (rs := [.cell 2 42, .tmp 3]) rfl ?_⟩⟩
            replace hcs := hM_.get hcs (by simp)
            replace hbs := hM_.get hbs (by simp)
            replace hMs := hMs.trans hM_ (by simp)
            clear hM_
            have cc := fun o => cellOf (o := o) hcs
            have cA := fun o => cellOf (o := o) hbs
            have xA := fun o => frozenOf (o := o) hbs
            by_cases hE : E = 0
            · subst hE
              by_cases hY : Y = S
              · subst hY
                simp (maxSteps := 1000000) (disch := first | omega | (simp only [sizeAlloc, sizeDrew, sizeSet, sizePut] <;> omega) | fail) only [GS, TT_eq, TTl, Nat.reduceAdd, Nat.reduceMul, Nat.reduceSub, Nat.reduceDiv, Nat.reduceMod, Nat.reducePow, Nat.reduceEqDiff, ↓reduceIte, reduceCtorEq, Int.reduceToNat, Int.reduceAdd, Int.reduceSub, Int.reduceMul, eq_self, cc, cA, xA]
                refine load7r (st7z hbs) ?_
                exact hyes (hiff.1 rfl) _ (modSet7z hMs (.inr hge))
              · have hno : isE S = false := by rw [Bool.eq_false_iff]; intro h; exact hY (congrArg Prod.fst (hiff.2 h))
                simp (maxSteps := 1000000) (disch := first | omega | (simp only [sizeAlloc, sizeDrew, sizeSet, sizePut] <;> omega) | fail) only [GS, TT_eq, TTl, Nat.reduceAdd, Nat.reduceMul, Nat.reduceSub, Nat.reduceDiv, Nat.reduceMod, Nat.reducePow, Nat.reduceEqDiff, ↓reduceIte, reduceCtorEq, Int.reduceToNat, Int.reduceAdd, Int.reduceSub, Int.reduceMul, hY, cA, xA]
                refine load7r (st7z hbs) ?_
                exact hR0 hno _ (modSet7z hMs (.inr hge))
            · have hno : isE S = false := by rw [Bool.eq_false_iff]; intro h; exact hE (congrArg Prod.snd (hiff.2 h))
              simp (maxSteps := 1000000) (disch := first | omega | (simp only [sizeAlloc, sizeDrew, sizeSet, sizePut] <;> omega) | fail) only [GS, TT_eq, TTl, Nat.reduceAdd, Nat.reduceMul, Nat.reduceSub, Nat.reduceDiv, Nat.reduceMod, Nat.reducePow, Nat.reduceEqDiff, ↓reduceIte, reduceCtorEq, Int.reduceToNat, Int.reduceAdd, Int.reduceSub, Int.reduceMul, hE, cA, xA]
              refine load7r (st7z hbs) ?_
              exact hR0 hno _ (modSet7z hMs (.inr hge))
        · refine ht_eff okT rfl rfl (v := .pointer (some ⟨w33.heap.size, 0, none⟩)) (w' := w33.alloc (.cells #[.int .i64 0, .int .i64 0, .int .i64 0, .int .i64 0, .int .i64 0, .string ⟨#[]⟩, .string ⟨#[]⟩] 42)) (by simp (maxSteps := 1000000) only [GS, TT_eq, TTl, Nat.reduceAdd, Nat.reduceMul, Nat.reduceSub, Nat.reduceDiv, Nat.reduceMod, Nat.reducePow, Nat.reduceEqDiff, ↓reduceIte, reduceCtorEq, Int.reduceToNat, Int.reduceAdd, Int.reduceSub, Int.reduceMul]) ?_ ?_ ht_stop
          all_goals have hM_ := (Mod.refl [] w33).alloc (.cells #[.int .i64 0, .int .i64 0, .int .i64 0, .int .i64 0, .int .i64 0, .string ⟨#[]⟩, .string ⟨#[]⟩] 42)
          all_goals have hc := heapNew (w := w33) (o := (.cells #[.int .i64 0, .int .i64 0, .int .i64 0, .int .i64 0, .int .i64 0, .string ⟨#[]⟩, .string ⟨#[]⟩] 42))
          all_goals generalize w33.alloc (.cells #[.int .i64 0, .int .i64 0, .int .i64 0, .int .i64 0, .int .i64 0, .string ⟨#[]⟩, .string ⟨#[]⟩] 42) = w38 at hM_ hc ⊢
          · simp (maxSteps := 1000000) only [GS, TT_eq, TTl, Nat.reduceAdd, Nat.reduceMul, Nat.reduceSub, Nat.reduceDiv, Nat.reduceMod, Nat.reducePow, Nat.reduceEqDiff, ↓reduceIte, reduceCtorEq, Int.reduceToNat, Int.reduceAdd, Int.reduceSub, Int.reduceMul]
            exact ⟨cellMS14 d7 hM_ (by simp), cellMS14 d6 hM_ (by simp)⟩
          have hnb : n < w33.heap.size := (Array.getElem?_eq_some_iff.1 hA).1
          have hwb := hM0.size
          replace hA := hM_.get hA (by simp)
          replace hM0 := hM0.trans hM_ (by simp)
          replace hrd := hrd.mod hM_ (by simp)
          replace d6 := cellMS14 d6 hM_ (by simp)
          replace d7 := cellMS14 d7 hM_ (by simp)
          clear hM_
          generalize w33.heap.size = b4 at hnb hwb hc ⊢
          simp (maxSteps := 1000000) only [GS, TT_eq, TTl, Nat.reduceAdd, Nat.reduceMul, Nat.reduceSub, Nat.reduceDiv, Nat.reduceMod, Nat.reducePow, Nat.reduceEqDiff, ↓reduceIte, reduceCtorEq, Int.reduceToNat, Int.reduceAdd, Int.reduceSub, Int.reduceMul]
          refine ht_lin rfl (hold_dops okT (rs := [.cell 2 42, .tmp 3]) rfl ?_)
          simp (maxSteps := 1000000) (disch := first | omega | (simp only [sizeAlloc, sizeDrew, sizeSet, sizePut] <;> omega) | fail) only [GS, TT_eq, TTl, Nat.reduceAdd, Nat.reduceMul, Nat.reduceSub, Nat.reduceDiv, Nat.reduceMod, Nat.reducePow, Nat.reduceEqDiff, ↓reduceIte, reduceCtorEq, Int.reduceToNat, Int.reduceAdd, Int.reduceSub, Int.reduceMul]
          refine ⟨fok61, hN4 _ _ _ hrd fun w39 hM_ => .inl ⟨_, rfl, ⟨cellMS14 d7 hM_ (by simp), cellMS14 d6 hM_ (by simp)⟩, hold_dops okT (rs := [.cell 2 42, .tmp 3]) rfl ?_⟩⟩
          replace hA := hM_.get hA (by simp)
          replace hM0 := hM0.trans hM_ (by simp)
          replace hrd := hrd.mod hM_ (by simp)
          replace d6 := cellMS14 d6 hM_ (by simp)
          replace d7 := cellMS14 d7 hM_ (by simp)
          replace hc := hM_.get hc (by simp)
          clear hM_
          simp (maxSteps := 1000000) (disch := first | omega | (simp only [sizeAlloc, sizeDrew, sizeSet, sizePut] <;> omega) | fail) only [GS, TT_eq, TTl, Nat.reduceAdd, Nat.reduceMul, Nat.reduceSub, Nat.reduceDiv, Nat.reduceMod, Nat.reducePow, Nat.reduceEqDiff, ↓reduceIte, reduceCtorEq, Int.reduceToNat, Int.reduceAdd, Int.reduceSub, Int.reduceMul]
          refine ⟨fok61, hN5 _ _ _ hrd fun w40 hM_ => .inl ⟨_, rfl, ⟨cellMS14 d7 hM_ (by simp), cellMS14 d6 hM_ (by simp)⟩, hold_dops okT (rs := [.cell 2 42, .tmp 3]) rfl ?_⟩⟩
          replace hA := hM_.get hA (by simp)
          replace hM0 := hM0.trans hM_ (by simp)
          replace hrd := hrd.mod hM_ (by simp)
          replace d6 := cellMS14 d6 hM_ (by simp)
          replace d7 := cellMS14 d7 hM_ (by simp)
          replace hc := hM_.get hc (by simp)
          clear hM_
          have cc := fun o => cellOf (o := o) hc
          have xc := fun o => frozenOf (o := o) hc
          simp (maxSteps := 1000000) (disch := first | omega | (simp only [sizeAlloc, sizeDrew, sizeSet, sizePut] <;> omega) | fail) only [GS, TT_eq, TTl, Nat.reduceAdd, Nat.reduceMul, Nat.reduceSub, Nat.reduceDiv, Nat.reduceMod, Nat.reducePow, Nat.reduceEqDiff, ↓reduceIte, reduceCtorEq, Int.reduceToNat, Int.reduceAdd, Int.reduceSub, Int.reduceMul, cc, xc]
          have hcs := st7z hc (x0 := .int .i64 (nR L1)) (x1 := .int .i64 (nR L2)) (x2 := .int .i64 (nR L3)) (x3 := .int .i64 (nR L4)) (x4 := .int .i64 (nR L5)) (x5 := .string ⟨L6.toArray⟩) (x6 := .string ⟨L7.toArray⟩)
          have hbs : (((((((w40.setCell ⟨b4, 0, none⟩ (.int .i64 (nR L1))).setCell ⟨b4, 1, none⟩ (.int .i64 (nR L2))).setCell ⟨b4, 2, none⟩ (.int .i64 (nR L3))).setCell ⟨b4, 3, none⟩ (.int .i64 (nR L4))).setCell ⟨b4, 4, none⟩ (.int .i64 (nR L5))).setCell ⟨b4, 5, none⟩ (.string ⟨L6.toArray⟩)).setCell ⟨b4, 6, none⟩ (.string ⟨L7.toArray⟩)).heap[n]? = _ := setNe7z hA (by omega)
          have hMs : Mod [] w (((((((w40.setCell ⟨b4, 0, none⟩ (.int .i64 (nR L1))).setCell ⟨b4, 1, none⟩ (.int .i64 (nR L2))).setCell ⟨b4, 2, none⟩ (.int .i64 (nR L3))).setCell ⟨b4, 3, none⟩ (.int .i64 (nR L4))).setCell ⟨b4, 4, none⟩ (.int .i64 (nR L5))).setCell ⟨b4, 5, none⟩ (.string ⟨L6.toArray⟩)).setCell ⟨b4, 6, none⟩ (.string ⟨L7.toArray⟩)) := modSet7z hM0 (.inr hwb)
          generalize (((((((w40.setCell ⟨b4, 0, none⟩ (.int .i64 (nR L1))).setCell ⟨b4, 1, none⟩ (.int .i64 (nR L2))).setCell ⟨b4, 2, none⟩ (.int .i64 (nR L3))).setCell ⟨b4, 3, none⟩ (.int .i64 (nR L4))).setCell ⟨b4, 4, none⟩ (.int .i64 (nR L5))).setCell ⟨b4, 5, none⟩ (.string ⟨L6.toArray⟩)).setCell ⟨b4, 6, none⟩ (.string ⟨L7.toArray⟩)) = w20 at hcs hbs hMs ⊢
          refine ⟨fok20, hEn _ _ fun w21 hM_ => .inl ⟨_, rfl, hold_ops okT (rs := [.cell 2 42, .tmp 3]) rfl ?_⟩⟩
          replace hcs := hM_.get hcs (by simp)
          replace hbs := hM_.get hbs (by simp)
          replace hMs := hMs.trans hM_ (by simp)
          clear hM_
          have cc := fun o => cellOf (o := o) hcs
          have cA := fun o => cellOf (o := o) hbs
          have xA := fun o => frozenOf (o := o) hbs
          by_cases hE : E = 0
          · subst hE
            by_cases hY : Y = S
            · subst hY
              simp (maxSteps := 1000000) (disch := first | omega | (simp only [sizeAlloc, sizeDrew, sizeSet, sizePut] <;> omega) | fail) only [GS, TT_eq, TTl, Nat.reduceAdd, Nat.reduceMul, Nat.reduceSub, Nat.reduceDiv, Nat.reduceMod, Nat.reducePow, Nat.reduceEqDiff, ↓reduceIte, reduceCtorEq, Int.reduceToNat, Int.reduceAdd, Int.reduceSub, Int.reduceMul, eq_self, cc, cA, xA]
              refine load7r (st7z hbs) ?_
              exact hyes (hiff.1 rfl) _ (modSet7z hMs (.inr hge))
            · have hno : isE S = false := by rw [Bool.eq_false_iff]; intro h; exact hY (congrArg Prod.fst (hiff.2 h))
              simp (maxSteps := 1000000) (disch := first | omega | (simp only [sizeAlloc, sizeDrew, sizeSet, sizePut] <;> omega) | fail) only [GS, TT_eq, TTl, Nat.reduceAdd, Nat.reduceMul, Nat.reduceSub, Nat.reduceDiv, Nat.reduceMod, Nat.reducePow, Nat.reduceEqDiff, ↓reduceIte, reduceCtorEq, Int.reduceToNat, Int.reduceAdd, Int.reduceSub, Int.reduceMul, hY, cA, xA]
              refine load7r (st7z hbs) ?_
              exact hR0 hno _ (modSet7z hMs (.inr hge))
          · have hno : isE S = false := by rw [Bool.eq_false_iff]; intro h; exact hE (congrArg Prod.snd (hiff.2 h))
            simp (maxSteps := 1000000) (disch := first | omega | (simp only [sizeAlloc, sizeDrew, sizeSet, sizePut] <;> omega) | fail) only [GS, TT_eq, TTl, Nat.reduceAdd, Nat.reduceMul, Nat.reduceSub, Nat.reduceDiv, Nat.reduceMod, Nat.reducePow, Nat.reduceEqDiff, ↓reduceIte, reduceCtorEq, Int.reduceToNat, Int.reduceAdd, Int.reduceSub, Int.reduceMul, hE, cA, xA]
            refine load7r (st7z hbs) ?_
            exact hR0 hno _ (modSet7z hMs (.inr hge))
      · refine ht_eff okT rfl rfl (v := .pointer (some ⟨w32.heap.size, 0, none⟩)) (w' := w32.alloc (.cells #[.int .i64 0, .int .i64 0, .int .i64 0, .int .i64 0, .int .i64 0, .string ⟨#[]⟩, .string ⟨#[]⟩] 42)) (by simp (maxSteps := 1000000) only [GS, TT_eq, TTl, Nat.reduceAdd, Nat.reduceMul, Nat.reduceSub, Nat.reduceDiv, Nat.reduceMod, Nat.reducePow, Nat.reduceEqDiff, ↓reduceIte, reduceCtorEq, Int.reduceToNat, Int.reduceAdd, Int.reduceSub, Int.reduceMul]) ?_ ?_ ht_stop
        all_goals have hM_ := (Mod.refl [] w32).alloc (.cells #[.int .i64 0, .int .i64 0, .int .i64 0, .int .i64 0, .int .i64 0, .string ⟨#[]⟩, .string ⟨#[]⟩] 42)
        all_goals have hc := heapNew (w := w32) (o := (.cells #[.int .i64 0, .int .i64 0, .int .i64 0, .int .i64 0, .int .i64 0, .string ⟨#[]⟩, .string ⟨#[]⟩] 42))
        all_goals generalize w32.alloc (.cells #[.int .i64 0, .int .i64 0, .int .i64 0, .int .i64 0, .int .i64 0, .string ⟨#[]⟩, .string ⟨#[]⟩] 42) = w41 at hM_ hc ⊢
        · simp (maxSteps := 1000000) only [GS, TT_eq, TTl, Nat.reduceAdd, Nat.reduceMul, Nat.reduceSub, Nat.reduceDiv, Nat.reduceMod, Nat.reducePow, Nat.reduceEqDiff, ↓reduceIte, reduceCtorEq, Int.reduceToNat, Int.reduceAdd, Int.reduceSub, Int.reduceMul]
          exact ⟨cellMS14 d7 hM_ (by simp), cellMS14 d6 hM_ (by simp)⟩
        have hnb : n < w32.heap.size := (Array.getElem?_eq_some_iff.1 hA).1
        have hwb := hM0.size
        replace hA := hM_.get hA (by simp)
        replace hM0 := hM0.trans hM_ (by simp)
        replace hrd := hrd.mod hM_ (by simp)
        replace d6 := cellMS14 d6 hM_ (by simp)
        replace d7 := cellMS14 d7 hM_ (by simp)
        clear hM_
        generalize w32.heap.size = b4 at hnb hwb hc ⊢
        simp (maxSteps := 1000000) only [GS, TT_eq, TTl, Nat.reduceAdd, Nat.reduceMul, Nat.reduceSub, Nat.reduceDiv, Nat.reduceMod, Nat.reducePow, Nat.reduceEqDiff, ↓reduceIte, reduceCtorEq, Int.reduceToNat, Int.reduceAdd, Int.reduceSub, Int.reduceMul]
        refine ht_lin rfl (hold_dops okT (rs := [.cell 2 42, .tmp 3]) rfl ?_)
        simp (maxSteps := 1000000) (disch := first | omega | (simp only [sizeAlloc, sizeDrew, sizeSet, sizePut] <;> omega) | fail) only [GS, TT_eq, TTl, Nat.reduceAdd, Nat.reduceMul, Nat.reduceSub, Nat.reduceDiv, Nat.reduceMod, Nat.reducePow, Nat.reduceEqDiff, ↓reduceIte, reduceCtorEq, Int.reduceToNat, Int.reduceAdd, Int.reduceSub, Int.reduceMul]
        refine ⟨fok61, hN3 _ _ _ hrd fun w42 hM_ => .inl ⟨_, rfl, ⟨cellMS14 d7 hM_ (by simp), cellMS14 d6 hM_ (by simp)⟩, hold_dops okT (rs := [.cell 2 42, .tmp 3]) rfl ?_⟩⟩
        replace hA := hM_.get hA (by simp)
        replace hM0 := hM0.trans hM_ (by simp)
        replace hrd := hrd.mod hM_ (by simp)
        replace d6 := cellMS14 d6 hM_ (by simp)
        replace d7 := cellMS14 d7 hM_ (by simp)
        replace hc := hM_.get hc (by simp)
        clear hM_
        simp (maxSteps := 1000000) (disch := first | omega | (simp only [sizeAlloc, sizeDrew, sizeSet, sizePut] <;> omega) | fail) only [GS, TT_eq, TTl, Nat.reduceAdd, Nat.reduceMul, Nat.reduceSub, Nat.reduceDiv, Nat.reduceMod, Nat.reducePow, Nat.reduceEqDiff, ↓reduceIte, reduceCtorEq, Int.reduceToNat, Int.reduceAdd, Int.reduceSub, Int.reduceMul]
        refine ⟨fok61, hN4 _ _ _ hrd fun w43 hM_ => .inl ⟨_, rfl, ⟨cellMS14 d7 hM_ (by simp), cellMS14 d6 hM_ (by simp)⟩, hold_dops okT (rs := [.cell 2 42, .tmp 3]) rfl ?_⟩⟩
        replace hA := hM_.get hA (by simp)
        replace hM0 := hM0.trans hM_ (by simp)
        replace hrd := hrd.mod hM_ (by simp)
        replace d6 := cellMS14 d6 hM_ (by simp)
        replace d7 := cellMS14 d7 hM_ (by simp)
        replace hc := hM_.get hc (by simp)
        clear hM_
        simp (maxSteps := 1000000) (disch := first | omega | (simp only [sizeAlloc, sizeDrew, sizeSet, sizePut] <;> omega) | fail) only [GS, TT_eq, TTl, Nat.reduceAdd, Nat.reduceMul, Nat.reduceSub, Nat.reduceDiv, Nat.reduceMod, Nat.reducePow, Nat.reduceEqDiff, ↓reduceIte, reduceCtorEq, Int.reduceToNat, Int.reduceAdd, Int.reduceSub, Int.reduceMul]
        refine ⟨fok61, hN5 _ _ _ hrd fun w44 hM_ => .inl ⟨_, rfl, ⟨cellMS14 d7 hM_ (by simp), cellMS14 d6 hM_ (by simp)⟩, hold_dops okT (rs := [.cell 2 42, .tmp 3]) rfl ?_⟩⟩
        replace hA := hM_.get hA (by simp)
        replace hM0 := hM0.trans hM_ (by simp)
        replace hrd := hrd.mod hM_ (by simp)
        replace d6 := cellMS14 d6 hM_ (by simp)
        replace d7 := cellMS14 d7 hM_ (by simp)
        replace hc := hM_.get hc (by simp)
        clear hM_
        have cc := fun o => cellOf (o := o) hc
        have xc := fun o => frozenOf (o := o) hc
        simp (maxSteps := 1000000) (disch := first | omega | (simp only [sizeAlloc, sizeDrew, sizeSet, sizePut] <;> omega) | fail) only [GS, TT_eq, TTl, Nat.reduceAdd, Nat.reduceMul, Nat.reduceSub, Nat.reduceDiv, Nat.reduceMod, Nat.reducePow, Nat.reduceEqDiff, ↓reduceIte, reduceCtorEq, Int.reduceToNat, Int.reduceAdd, Int.reduceSub, Int.reduceMul, cc, xc]
        have hcs := st7z hc (x0 := .int .i64 (nR L1)) (x1 := .int .i64 (nR L2)) (x2 := .int .i64 (nR L3)) (x3 := .int .i64 (nR L4)) (x4 := .int .i64 (nR L5)) (x5 := .string ⟨L6.toArray⟩) (x6 := .string ⟨L7.toArray⟩)
        have hbs : (((((((w44.setCell ⟨b4, 0, none⟩ (.int .i64 (nR L1))).setCell ⟨b4, 1, none⟩ (.int .i64 (nR L2))).setCell ⟨b4, 2, none⟩ (.int .i64 (nR L3))).setCell ⟨b4, 3, none⟩ (.int .i64 (nR L4))).setCell ⟨b4, 4, none⟩ (.int .i64 (nR L5))).setCell ⟨b4, 5, none⟩ (.string ⟨L6.toArray⟩)).setCell ⟨b4, 6, none⟩ (.string ⟨L7.toArray⟩)).heap[n]? = _ := setNe7z hA (by omega)
        have hMs : Mod [] w (((((((w44.setCell ⟨b4, 0, none⟩ (.int .i64 (nR L1))).setCell ⟨b4, 1, none⟩ (.int .i64 (nR L2))).setCell ⟨b4, 2, none⟩ (.int .i64 (nR L3))).setCell ⟨b4, 3, none⟩ (.int .i64 (nR L4))).setCell ⟨b4, 4, none⟩ (.int .i64 (nR L5))).setCell ⟨b4, 5, none⟩ (.string ⟨L6.toArray⟩)).setCell ⟨b4, 6, none⟩ (.string ⟨L7.toArray⟩)) := modSet7z hM0 (.inr hwb)
        generalize (((((((w44.setCell ⟨b4, 0, none⟩ (.int .i64 (nR L1))).setCell ⟨b4, 1, none⟩ (.int .i64 (nR L2))).setCell ⟨b4, 2, none⟩ (.int .i64 (nR L3))).setCell ⟨b4, 3, none⟩ (.int .i64 (nR L4))).setCell ⟨b4, 4, none⟩ (.int .i64 (nR L5))).setCell ⟨b4, 5, none⟩ (.string ⟨L6.toArray⟩)).setCell ⟨b4, 6, none⟩ (.string ⟨L7.toArray⟩)) = w20 at hcs hbs hMs ⊢
        refine ⟨fok20, hEn _ _ fun w21 hM_ => .inl ⟨_, rfl, hold_ops okT (rs := [.cell 2 42, .tmp 3]) rfl ?_⟩⟩
        replace hcs := hM_.get hcs (by simp)
        replace hbs := hM_.get hbs (by simp)
        replace hMs := hMs.trans hM_ (by simp)
        clear hM_
        have cc := fun o => cellOf (o := o) hcs
        have cA := fun o => cellOf (o := o) hbs
        have xA := fun o => frozenOf (o := o) hbs
        by_cases hE : E = 0
        · subst hE
          by_cases hY : Y = S
          · subst hY
            simp (maxSteps := 1000000) (disch := first | omega | (simp only [sizeAlloc, sizeDrew, sizeSet, sizePut] <;> omega) | fail) only [GS, TT_eq, TTl, Nat.reduceAdd, Nat.reduceMul, Nat.reduceSub, Nat.reduceDiv, Nat.reduceMod, Nat.reducePow, Nat.reduceEqDiff, ↓reduceIte, reduceCtorEq, Int.reduceToNat, Int.reduceAdd, Int.reduceSub, Int.reduceMul, eq_self, cc, cA, xA]
            refine load7r (st7z hbs) ?_
            exact hyes (hiff.1 rfl) _ (modSet7z hMs (.inr hge))
          · have hno : isE S = false := by rw [Bool.eq_false_iff]; intro h; exact hY (congrArg Prod.fst (hiff.2 h))
            simp (maxSteps := 1000000) (disch := first | omega | (simp only [sizeAlloc, sizeDrew, sizeSet, sizePut] <;> omega) | fail) only [GS, TT_eq, TTl, Nat.reduceAdd, Nat.reduceMul, Nat.reduceSub, Nat.reduceDiv, Nat.reduceMod, Nat.reducePow, Nat.reduceEqDiff, ↓reduceIte, reduceCtorEq, Int.reduceToNat, Int.reduceAdd, Int.reduceSub, Int.reduceMul, hY, cA, xA]
            refine load7r (st7z hbs) ?_
            exact hR0 hno _ (modSet7z hMs (.inr hge))
        · have hno : isE S = false := by rw [Bool.eq_false_iff]; intro h; exact hE (congrArg Prod.snd (hiff.2 h))
          simp (maxSteps := 1000000) (disch := first | omega | (simp only [sizeAlloc, sizeDrew, sizeSet, sizePut] <;> omega) | fail) only [GS, TT_eq, TTl, Nat.reduceAdd, Nat.reduceMul, Nat.reduceSub, Nat.reduceDiv, Nat.reduceMod, Nat.reducePow, Nat.reduceEqDiff, ↓reduceIte, reduceCtorEq, Int.reduceToNat, Int.reduceAdd, Int.reduceSub, Int.reduceMul, hE, cA, xA]
          refine load7r (st7z hbs) ?_
          exact hR0 hno _ (modSet7z hMs (.inr hge))
    · refine ht_eff okT rfl rfl (v := .pointer (some ⟨w31.heap.size, 0, none⟩)) (w' := w31.alloc (.cells #[.int .i64 0, .int .i64 0, .int .i64 0, .int .i64 0, .int .i64 0, .string ⟨#[]⟩, .string ⟨#[]⟩] 42)) (by simp (maxSteps := 1000000) only [GS, TT_eq, TTl, Nat.reduceAdd, Nat.reduceMul, Nat.reduceSub, Nat.reduceDiv, Nat.reduceMod, Nat.reducePow, Nat.reduceEqDiff, ↓reduceIte, reduceCtorEq, Int.reduceToNat, Int.reduceAdd, Int.reduceSub, Int.reduceMul]) ?_ ?_ ht_stop
      all_goals have hM_ := (Mod.refl [] w31).alloc (.cells #[.int .i64 0, .int .i64 0, .int .i64 0, .int .i64 0, .int .i64 0, .string ⟨#[]⟩, .string ⟨#[]⟩] 42)
      all_goals have hc := heapNew (w := w31) (o := (.cells #[.int .i64 0, .int .i64 0, .int .i64 0, .int .i64 0, .int .i64 0, .string ⟨#[]⟩, .string ⟨#[]⟩] 42))
      all_goals generalize w31.alloc (.cells #[.int .i64 0, .int .i64 0, .int .i64 0, .int .i64 0, .int .i64 0, .string ⟨#[]⟩, .string ⟨#[]⟩] 42) = w45 at hM_ hc ⊢
      · simp (maxSteps := 1000000) only [GS, TT_eq, TTl, Nat.reduceAdd, Nat.reduceMul, Nat.reduceSub, Nat.reduceDiv, Nat.reduceMod, Nat.reducePow, Nat.reduceEqDiff, ↓reduceIte, reduceCtorEq, Int.reduceToNat, Int.reduceAdd, Int.reduceSub, Int.reduceMul]
        exact ⟨cellMS14 d7 hM_ (by simp), cellMS14 d6 hM_ (by simp)⟩
      have hnb : n < w31.heap.size := (Array.getElem?_eq_some_iff.1 hA).1
      have hwb := hM0.size
      replace hA := hM_.get hA (by simp)
      replace hM0 := hM0.trans hM_ (by simp)
      replace hrd := hrd.mod hM_ (by simp)
      replace d6 := cellMS14 d6 hM_ (by simp)
      replace d7 := cellMS14 d7 hM_ (by simp)
      clear hM_
      generalize w31.heap.size = b4 at hnb hwb hc ⊢
      simp (maxSteps := 1000000) only [GS, TT_eq, TTl, Nat.reduceAdd, Nat.reduceMul, Nat.reduceSub, Nat.reduceDiv, Nat.reduceMod, Nat.reducePow, Nat.reduceEqDiff, ↓reduceIte, reduceCtorEq, Int.reduceToNat, Int.reduceAdd, Int.reduceSub, Int.reduceMul]
      refine ht_lin rfl (hold_dops okT (rs := [.cell 2 42, .tmp 3]) rfl ?_)
      simp (maxSteps := 1000000) (disch := first | omega | (simp only [sizeAlloc, sizeDrew, sizeSet, sizePut] <;> omega) | fail) only [GS, TT_eq, TTl, Nat.reduceAdd, Nat.reduceMul, Nat.reduceSub, Nat.reduceDiv, Nat.reduceMod, Nat.reducePow, Nat.reduceEqDiff, ↓reduceIte, reduceCtorEq, Int.reduceToNat, Int.reduceAdd, Int.reduceSub, Int.reduceMul]
      refine ⟨fok61, hN2 _ _ _ hrd fun w46 hM_ => .inl ⟨_, rfl, ⟨cellMS14 d7 hM_ (by simp), cellMS14 d6 hM_ (by simp)⟩, hold_dops okT (rs := [.cell 2 42, .tmp 3]) rfl ?_⟩⟩
      replace hA := hM_.get hA (by simp)
      replace hM0 := hM0.trans hM_ (by simp)
      replace hrd := hrd.mod hM_ (by simp)
      replace d6 := cellMS14 d6 hM_ (by simp)
      replace d7 := cellMS14 d7 hM_ (by simp)
      replace hc := hM_.get hc (by simp)
      clear hM_
      simp (maxSteps := 1000000) (disch := first | omega | (simp only [sizeAlloc, sizeDrew, sizeSet, sizePut] <;> omega) | fail) only [GS, TT_eq, TTl, Nat.reduceAdd, Nat.reduceMul, Nat.reduceSub, Nat.reduceDiv, Nat.reduceMod, Nat.reducePow, Nat.reduceEqDiff, ↓reduceIte, reduceCtorEq, Int.reduceToNat, Int.reduceAdd, Int.reduceSub, Int.reduceMul]
      refine ⟨fok61, hN3 _ _ _ hrd fun w47 hM_ => .inl ⟨_, rfl, ⟨cellMS14 d7 hM_ (by simp), cellMS14 d6 hM_ (by simp)⟩, hold_dops okT (rs := [.cell 2 42, .tmp 3]) rfl ?_⟩⟩
      replace hA := hM_.get hA (by simp)
      replace hM0 := hM0.trans hM_ (by simp)
      replace hrd := hrd.mod hM_ (by simp)
      replace d6 := cellMS14 d6 hM_ (by simp)
      replace d7 := cellMS14 d7 hM_ (by simp)
      replace hc := hM_.get hc (by simp)
      clear hM_
      simp (maxSteps := 1000000) (disch := first | omega | (simp only [sizeAlloc, sizeDrew, sizeSet, sizePut] <;> omega) | fail) only [GS, TT_eq, TTl, Nat.reduceAdd, Nat.reduceMul, Nat.reduceSub, Nat.reduceDiv, Nat.reduceMod, Nat.reducePow, Nat.reduceEqDiff, ↓reduceIte, reduceCtorEq, Int.reduceToNat, Int.reduceAdd, Int.reduceSub, Int.reduceMul]
      refine ⟨fok61, hN4 _ _ _ hrd fun w48 hM_ => .inl ⟨_, rfl, ⟨cellMS14 d7 hM_ (by simp), cellMS14 d6 hM_ (by simp)⟩, hold_dops okT (rs := [.cell 2 42, .tmp 3]) rfl ?_⟩⟩
      replace hA := hM_.get hA (by simp)
      replace hM0 := hM0.trans hM_ (by simp)
      replace hrd := hrd.mod hM_ (by simp)
      replace d6 := cellMS14 d6 hM_ (by simp)
      replace d7 := cellMS14 d7 hM_ (by simp)
      replace hc := hM_.get hc (by simp)
      clear hM_
      simp (maxSteps := 1000000) (disch := first | omega | (simp only [sizeAlloc, sizeDrew, sizeSet, sizePut] <;> omega) | fail) only [GS, TT_eq, TTl, Nat.reduceAdd, Nat.reduceMul, Nat.reduceSub, Nat.reduceDiv, Nat.reduceMod, Nat.reducePow, Nat.reduceEqDiff, ↓reduceIte, reduceCtorEq, Int.reduceToNat, Int.reduceAdd, Int.reduceSub, Int.reduceMul]
      refine ⟨fok61, hN5 _ _ _ hrd fun w49 hM_ => .inl ⟨_, rfl, ⟨cellMS14 d7 hM_ (by simp), cellMS14 d6 hM_ (by simp)⟩, hold_dops okT (rs := [.cell 2 42, .tmp 3]) rfl ?_⟩⟩
      replace hA := hM_.get hA (by simp)
      replace hM0 := hM0.trans hM_ (by simp)
      replace hrd := hrd.mod hM_ (by simp)
      replace d6 := cellMS14 d6 hM_ (by simp)
      replace d7 := cellMS14 d7 hM_ (by simp)
      replace hc := hM_.get hc (by simp)
      clear hM_
      have cc := fun o => cellOf (o := o) hc
      have xc := fun o => frozenOf (o := o) hc
      simp (maxSteps := 1000000) (disch := first | omega | (simp only [sizeAlloc, sizeDrew, sizeSet, sizePut] <;> omega) | fail) only [GS, TT_eq, TTl, Nat.reduceAdd, Nat.reduceMul, Nat.reduceSub, Nat.reduceDiv, Nat.reduceMod, Nat.reducePow, Nat.reduceEqDiff, ↓reduceIte, reduceCtorEq, Int.reduceToNat, Int.reduceAdd, Int.reduceSub, Int.reduceMul, cc, xc]
      have hcs := st7z hc (x0 := .int .i64 (nR L1)) (x1 := .int .i64 (nR L2)) (x2 := .int .i64 (nR L3)) (x3 := .int .i64 (nR L4)) (x4 := .int .i64 (nR L5)) (x5 := .string ⟨L6.toArray⟩) (x6 := .string ⟨L7.toArray⟩)
      have hbs : (((((((w49.setCell ⟨b4, 0, none⟩ (.int .i64 (nR L1))).setCell ⟨b4, 1, none⟩ (.int .i64 (nR L2))).setCell ⟨b4, 2, none⟩ (.int .i64 (nR L3))).setCell ⟨b4, 3, none⟩ (.int .i64 (nR L4))).setCell ⟨b4, 4, none⟩ (.int .i64 (nR L5))).setCell ⟨b4, 5, none⟩ (.string ⟨L6.toArray⟩)).setCell ⟨b4, 6, none⟩ (.string ⟨L7.toArray⟩)).heap[n]? = _ := setNe7z hA (by omega)
      have hMs : Mod [] w (((((((w49.setCell ⟨b4, 0, none⟩ (.int .i64 (nR L1))).setCell ⟨b4, 1, none⟩ (.int .i64 (nR L2))).setCell ⟨b4, 2, none⟩ (.int .i64 (nR L3))).setCell ⟨b4, 3, none⟩ (.int .i64 (nR L4))).setCell ⟨b4, 4, none⟩ (.int .i64 (nR L5))).setCell ⟨b4, 5, none⟩ (.string ⟨L6.toArray⟩)).setCell ⟨b4, 6, none⟩ (.string ⟨L7.toArray⟩)) := modSet7z hM0 (.inr hwb)
      generalize (((((((w49.setCell ⟨b4, 0, none⟩ (.int .i64 (nR L1))).setCell ⟨b4, 1, none⟩ (.int .i64 (nR L2))).setCell ⟨b4, 2, none⟩ (.int .i64 (nR L3))).setCell ⟨b4, 3, none⟩ (.int .i64 (nR L4))).setCell ⟨b4, 4, none⟩ (.int .i64 (nR L5))).setCell ⟨b4, 5, none⟩ (.string ⟨L6.toArray⟩)).setCell ⟨b4, 6, none⟩ (.string ⟨L7.toArray⟩)) = w20 at hcs hbs hMs ⊢
      refine ⟨fok20, hEn _ _ fun w21 hM_ => .inl ⟨_, rfl, hold_ops okT (rs := [.cell 2 42, .tmp 3]) rfl ?_⟩⟩
      replace hcs := hM_.get hcs (by simp)
      replace hbs := hM_.get hbs (by simp)
      replace hMs := hMs.trans hM_ (by simp)
      clear hM_
      have cc := fun o => cellOf (o := o) hcs
      have cA := fun o => cellOf (o := o) hbs
      have xA := fun o => frozenOf (o := o) hbs
      by_cases hE : E = 0
      · subst hE
        by_cases hY : Y = S
        · subst hY
          simp (maxSteps := 1000000) (disch := first | omega | (simp only [sizeAlloc, sizeDrew, sizeSet, sizePut] <;> omega) | fail) only [GS, TT_eq, TTl, Nat.reduceAdd, Nat.reduceMul, Nat.reduceSub, Nat.reduceDiv, Nat.reduceMod, Nat.reducePow, Nat.reduceEqDiff, ↓reduceIte, reduceCtorEq, Int.reduceToNat, Int.reduceAdd, Int.reduceSub, Int.reduceMul, eq_self, cc, cA, xA]
          refine load7r (st7z hbs) ?_
          exact hyes (hiff.1 rfl) _ (modSet7z hMs (.inr hge))
        · have hno : isE S = false := by rw [Bool.eq_false_iff]; intro h; exact hY (congrArg Prod.fst (hiff.2 h))
          simp (maxSteps := 1000000) (disch := first | omega | (simp only [sizeAlloc, sizeDrew, sizeSet, sizePut] <;> omega) | fail) only [GS, TT_eq, TTl, Nat.reduceAdd, Nat.reduceMul, Nat.reduceSub, Nat.reduceDiv, Nat.reduceMod, Nat.reducePow, Nat.reduceEqDiff, ↓reduceIte, reduceCtorEq, Int.reduceToNat, Int.reduceAdd, Int.reduceSub, Int.reduceMul, hY, cA, xA]
          refine load7r (st7z hbs) ?_
          exact hR0 hno _ (modSet7z hMs (.inr hge))
      · have hno : isE S = false := by rw [Bool.eq_false_iff]; intro h; exact hE (congrArg Prod.snd (hiff.2 h))
        simp (maxSteps := 1000000) (disch := first | omega | (simp only [sizeAlloc, sizeDrew, sizeSet, sizePut] <;> omega) | fail) only [GS, TT_eq, TTl, Nat.reduceAdd, Nat.reduceMul, Nat.reduceSub, Nat.reduceDiv, Nat.reduceMod, Nat.reducePow, Nat.reduceEqDiff, ↓reduceIte, reduceCtorEq, Int.reduceToNat, Int.reduceAdd, Int.reduceSub, Int.reduceMul, hE, cA, xA]
        refine load7r (st7z hbs) ?_
        exact hR0 hno _ (modSet7z hMs (.inr hge))
  · refine ht_eff okT rfl rfl (v := .pointer (some ⟨w5.heap.size, 0, none⟩)) (w' := w5.alloc (.cells #[.int .i64 0, .int .i64 0, .int .i64 0, .int .i64 0, .int .i64 0, .string ⟨#[]⟩, .string ⟨#[]⟩] 42)) (by simp (maxSteps := 1000000) only [GS, TT_eq, TTl, Nat.reduceAdd, Nat.reduceMul, Nat.reduceSub, Nat.reduceDiv, Nat.reduceMod, Nat.reducePow, Nat.reduceEqDiff, ↓reduceIte, reduceCtorEq, Int.reduceToNat, Int.reduceAdd, Int.reduceSub, Int.reduceMul]) ?_ ?_ ht_stop
    all_goals have hM_ := (Mod.refl [] w5).alloc (.cells #[.int .i64 0, .int .i64 0, .int .i64 0, .int .i64 0, .int .i64 0, .string ⟨#[]⟩, .string ⟨#[]⟩] 42)
    all_goals have hc := heapNew (w := w5) (o := (.cells #[.int .i64 0, .int .i64 0, .int .i64 0, .int .i64 0, .int .i64 0, .string ⟨#[]⟩, .string ⟨#[]⟩] 42))
    all_goals generalize w5.alloc (.cells #[.int .i64 0, .int .i64 0, .int .i64 0, .int .i64 0, .int .i64 0, .string ⟨#[]⟩, .string ⟨#[]⟩] 42) = w50 at hM_ hc ⊢
    · simp (maxSteps := 1000000) only [GS, TT_eq, TTl, Nat.reduceAdd, Nat.reduceMul, Nat.reduceSub, Nat.reduceDiv, Nat.reduceMod, Nat.reducePow, Nat.reduceEqDiff, ↓reduceIte, reduceCtorEq, Int.reduceToNat, Int.reduceAdd, Int.reduceSub, Int.reduceMul]
      exact ⟨cellMS14 d7 hM_ (by simp), cellMS14 d6 hM_ (by simp)⟩
    have hnb : n < w5.heap.size := (Array.getElem?_eq_some_iff.1 hA).1
    have hwb := hM0.size
    replace hA := hM_.get hA (by simp)
    replace hM0 := hM0.trans hM_ (by simp)
    replace hrd := hrd.mod hM_ (by simp)
    replace d6 := cellMS14 d6 hM_ (by simp)
    replace d7 := cellMS14 d7 hM_ (by simp)
    clear hM_
    generalize w5.heap.size = b4 at hnb hwb hc ⊢
    simp (maxSteps := 1000000) only [GS, TT_eq, TTl, Nat.reduceAdd, Nat.reduceMul, Nat.reduceSub, Nat.reduceDiv, Nat.reduceMod, Nat.reducePow, Nat.reduceEqDiff, ↓reduceIte, reduceCtorEq, Int.reduceToNat, Int.reduceAdd, Int.reduceSub, Int.reduceMul]
    refine ht_lin rfl (hold_dops okT (rs := [.cell 2 42, .tmp 3]) rfl ?_)
    simp (maxSteps := 1000000) (disch := first | omega | (simp only [sizeAlloc, sizeDrew, sizeSet, sizePut] <;> omega) | fail) only [GS, TT_eq, TTl, Nat.reduceAdd, Nat.reduceMul, Nat.reduceSub, Nat.reduceDiv, Nat.reduceMod, Nat.reducePow, Nat.reduceEqDiff, ↓reduceIte, reduceCtorEq, Int.reduceToNat, Int.reduceAdd, Int.reduceSub, Int.reduceMul]
    refine ⟨fok61, hN1 _ _ _ hrd fun w51 hM_ => .inl ⟨_, rfl, ⟨cellMS14 d7 hM_ (by simp), cellMS14 d6 hM_ (by simp)⟩, hold_dops okT (rs := [.cell 2 42, .tmp 3]) rfl ?_⟩⟩
    replace hA := hM_.get hA (by simp)
    replace hM0 := hM0.trans hM_ (by simp)
    replace hrd := hrd.mod hM_ (by simp)
    replace d6 := cellMS14 d6 hM_ (by simp)
    replace d7 := cellMS14 d7 hM_ (by simp)
    replace hc := hM_.get hc (by simp)
    clear hM_
    simp (maxSteps := 1000000) (disch := first | omega | (simp only [sizeAlloc, sizeDrew, sizeSet, sizePut] <;> omega) | fail) only [GS, TT_eq, TTl, Nat.reduceAdd, Nat.reduceMul, Nat.reduceSub, Nat.reduceDiv, Nat.reduceMod, Nat.reducePow, Nat.reduceEqDiff, ↓reduceIte, reduceCtorEq, Int.reduceToNat, Int.reduceAdd, Int.reduceSub, Int.reduceMul]
    refine ⟨fok61, hN2 _ _ _ hrd fun w52 hM_ => .inl ⟨_, rfl, ⟨cellMS14 d7 hM_ (by simp), cellMS14 d6 hM_ (by simp)⟩, hold_dops okT (rs := [.cell 2 42, .tmp 3]) rfl ?_⟩⟩
    replace hA := hM_.get hA (by simp)
    replace hM0 := hM0.trans hM_ (by simp)
    replace hrd := hrd.mod hM_ (by simp)
    replace d6 := cellMS14 d6 hM_ (by simp)
    replace d7 := cellMS14 d7 hM_ (by simp)
    replace hc := hM_.get hc (by simp)
    clear hM_
    simp (maxSteps := 1000000) (disch := first | omega | (simp only [sizeAlloc, sizeDrew, sizeSet, sizePut] <;> omega) | fail) only [GS, TT_eq, TTl, Nat.reduceAdd, Nat.reduceMul, Nat.reduceSub, Nat.reduceDiv, Nat.reduceMod, Nat.reducePow, Nat.reduceEqDiff, ↓reduceIte, reduceCtorEq, Int.reduceToNat, Int.reduceAdd, Int.reduceSub, Int.reduceMul]
    refine ⟨fok61, hN3 _ _ _ hrd fun w53 hM_ => .inl ⟨_, rfl, ⟨cellMS14 d7 hM_ (by simp), cellMS14 d6 hM_ (by simp)⟩, hold_dops okT (rs := [.cell 2 42, .tmp 3]) rfl ?_⟩⟩
    replace hA := hM_.get hA (by simp)
    replace hM0 := hM0.trans hM_ (by simp)
    replace hrd := hrd.mod hM_ (by simp)
    replace d6 := cellMS14 d6 hM_ (by simp)
    replace d7 := cellMS14 d7 hM_ (by simp)
    replace hc := hM_.get hc (by simp)
    clear hM_
    simp (maxSteps := 1000000) (disch := first | omega | (simp only [sizeAlloc, sizeDrew, sizeSet, sizePut] <;> omega) | fail) only [GS, TT_eq, TTl, Nat.reduceAdd, Nat.reduceMul, Nat.reduceSub, Nat.reduceDiv, Nat.reduceMod, Nat.reducePow, Nat.reduceEqDiff, ↓reduceIte, reduceCtorEq, Int.reduceToNat, Int.reduceAdd, Int.reduceSub, Int.reduceMul]
    refine ⟨fok61, hN4 _ _ _ hrd fun w54 hM_ => .inl ⟨_, rfl, ⟨cellMS14 d7 hM_ (by simp), cellMS14 d6 hM_ (by simp)⟩, hold_dops okT (rs := [.cell 2 42, .tmp 3]) rfl ?_⟩⟩
    replace hA := hM_.get hA (by simp)
    replace hM0 := hM0.trans hM_ (by simp)
    replace hrd := hrd.mod hM_ (by simp)
    replace d6 := cellMS14 d6 hM_ (by simp)
    replace d7 := cellMS14 d7 hM_ (by simp)
    replace hc := hM_.get hc (by simp)
    clear hM_
    simp (maxSteps := 1000000) (disch := first | omega | (simp only [sizeAlloc, sizeDrew, sizeSet, sizePut] <;> omega) | fail) only [GS, TT_eq, TTl, Nat.reduceAdd, Nat.reduceMul, Nat.reduceSub, Nat.reduceDiv, Nat.reduceMod, Nat.reducePow, Nat.reduceEqDiff, ↓reduceIte, reduceCtorEq, Int.reduceToNat, Int.reduceAdd, Int.reduceSub, Int.reduceMul]
    refine ⟨fok61, hN5 _ _ _ hrd fun w55 hM_ => .inl ⟨_, rfl, ⟨cellMS14 d7 hM_ (by simp), cellMS14 d6 hM_ (by simp)⟩, hold_dops okT (rs := [.cell 2 42, .tmp 3]) rfl ?_⟩⟩
    replace hA := hM_.get hA (by simp)
    replace hM0 := hM0.trans hM_ (by simp)
    replace hrd := hrd.mod hM_ (by simp)
    replace d6 := cellMS14 d6 hM_ (by simp)
    replace d7 := cellMS14 d7 hM_ (by simp)
    replace hc := hM_.get hc (by simp)
    clear hM_
    have cc := fun o => cellOf (o := o) hc
    have xc := fun o => frozenOf (o := o) hc
    simp (maxSteps := 1000000) (disch := first | omega | (simp only [sizeAlloc, sizeDrew, sizeSet, sizePut] <;> omega) | fail) only [GS, TT_eq, TTl, Nat.reduceAdd, Nat.reduceMul, Nat.reduceSub, Nat.reduceDiv, Nat.reduceMod, Nat.reducePow, Nat.reduceEqDiff, ↓reduceIte, reduceCtorEq, Int.reduceToNat, Int.reduceAdd, Int.reduceSub, Int.reduceMul, cc, xc]
    have hcs := st7z hc (x0 := .int .i64 (nR L1)) (x1 := .int .i64 (nR L2)) (x2 := .int .i64 (nR L3)) (x3 := .int .i64 (nR L4)) (x4 := .int .i64 (nR L5)) (x5 := .string ⟨L6.toArray⟩) (x6 := .string ⟨L7.toArray⟩)
    have hbs : (((((((w55.setCell ⟨b4, 0, none⟩ (.int .i64 (nR L1))).setCell ⟨b4, 1, none⟩ (.int .i64 (nR L2))).setCell ⟨b4, 2, none⟩ (.int .i64 (nR L3))).setCell ⟨b4, 3, none⟩ (.int .i64 (nR L4))).setCell ⟨b4, 4, none⟩ (.int .i64 (nR L5))).setCell ⟨b4, 5, none⟩ (.string ⟨L6.toArray⟩)).setCell ⟨b4, 6, none⟩ (.string ⟨L7.toArray⟩)).heap[n]? = _ := setNe7z hA (by omega)
    have hMs : Mod [] w (((((((w55.setCell ⟨b4, 0, none⟩ (.int .i64 (nR L1))).setCell ⟨b4, 1, none⟩ (.int .i64 (nR L2))).setCell ⟨b4, 2, none⟩ (.int .i64 (nR L3))).setCell ⟨b4, 3, none⟩ (.int .i64 (nR L4))).setCell ⟨b4, 4, none⟩ (.int .i64 (nR L5))).setCell ⟨b4, 5, none⟩ (.string ⟨L6.toArray⟩)).setCell ⟨b4, 6, none⟩ (.string ⟨L7.toArray⟩)) := modSet7z hM0 (.inr hwb)
    generalize (((((((w55.setCell ⟨b4, 0, none⟩ (.int .i64 (nR L1))).setCell ⟨b4, 1, none⟩ (.int .i64 (nR L2))).setCell ⟨b4, 2, none⟩ (.int .i64 (nR L3))).setCell ⟨b4, 3, none⟩ (.int .i64 (nR L4))).setCell ⟨b4, 4, none⟩ (.int .i64 (nR L5))).setCell ⟨b4, 5, none⟩ (.string ⟨L6.toArray⟩)).setCell ⟨b4, 6, none⟩ (.string ⟨L7.toArray⟩)) = w20 at hcs hbs hMs ⊢
    refine ⟨fok20, hEn _ _ fun w21 hM_ => .inl ⟨_, rfl, hold_ops okT (rs := [.cell 2 42, .tmp 3]) rfl ?_⟩⟩
    replace hcs := hM_.get hcs (by simp)
    replace hbs := hM_.get hbs (by simp)
    replace hMs := hMs.trans hM_ (by simp)
    clear hM_
    have cc := fun o => cellOf (o := o) hcs
    have cA := fun o => cellOf (o := o) hbs
    have xA := fun o => frozenOf (o := o) hbs
    by_cases hE : E = 0
    · subst hE
      by_cases hY : Y = S
      · subst hY
        simp (maxSteps := 1000000) (disch := first | omega | (simp only [sizeAlloc, sizeDrew, sizeSet, sizePut] <;> omega) | fail) only [GS, TT_eq, TTl, Nat.reduceAdd, Nat.reduceMul, Nat.reduceSub, Nat.reduceDiv, Nat.reduceMod, Nat.reducePow, Nat.reduceEqDiff, ↓reduceIte, reduceCtorEq, Int.reduceToNat, Int.reduceAdd, Int.reduceSub, Int.reduceMul, eq_self, cc, cA, xA]
        refine load7r (st7z hbs) ?_
        exact hyes (hiff.1 rfl) _ (modSet7z hMs (.inr hge))
      · have hno : isE S = false := by rw [Bool.eq_false_iff]; intro h; exact hY (congrArg Prod.fst (hiff.2 h))
        simp (maxSteps := 1000000) (disch := first | omega | (simp only [sizeAlloc, sizeDrew, sizeSet, sizePut] <;> omega) | fail) only [GS, TT_eq, TTl, Nat.reduceAdd, Nat.reduceMul, Nat.reduceSub, Nat.reduceDiv, Nat.reduceMod, Nat.reducePow, Nat.reduceEqDiff, ↓reduceIte, reduceCtorEq, Int.reduceToNat, Int.reduceAdd, Int.reduceSub, Int.reduceMul, hY, cA, xA]
        refine load7r (st7z hbs) ?_
        exact hR0 hno _ (modSet7z hMs (.inr hge))
    · have hno : isE S = false := by rw [Bool.eq_false_iff]; intro h; exact hE (congrArg Prod.snd (hiff.2 h))
      simp (maxSteps := 1000000) (disch := first | omega | (simp only [sizeAlloc, sizeDrew, sizeSet, sizePut] <;> omega) | fail) only [GS, TT_eq, TTl, Nat.reduceAdd, Nat.reduceMul, Nat.reduceSub, Nat.reduceDiv, Nat.reduceMod, Nat.reducePow, Nat.reduceEqDiff, ↓reduceIte, reduceCtorEq, Int.reduceToNat, Int.reduceAdd, Int.reduceSub, Int.reduceMul, hE, cA, xA]
      refine load7r (st7z hbs) ?_
      exact hR0 hno _ (modSet7z hMs (.inr hge))
end Go.Proofs.YthnlmmkhehphiaaGreatDoor
