/-
  The reference's Decode of a message (walk).
-/
import Derived.Test.YtpcilobbohokcaaGreatWrdRefK
import Derived.Test.YtpcilobbohokcaaGreatWrdRefE
set_option linter.unusedSimpArgs false
set_option linter.unusedVariables false
set_option maxRecDepth 20000
namespace Go.Proofs.YtpcilobbohokcaaGreat
open Go Go.Wk Go.RowKit
attribute [local irreducible] go Hold
open Go.Lib
theorem rReadTxn12_u (S : List UInt8) (hS : S.length ≤ maxLen) (w : World) (R : Ending → World → Prop) (hR : ∀ w', Mod [] w w' → R (.returned (.tuple #[txV ((untxO S).getD (0, 0, 0)), .bool (untxO S).isSome])) w') :
    Calls Tryz.prog 47 #[.string ⟨S.toArray⟩] w R :=
  rReadTxn12_cps S hS w R (fun x w' h hM => by have := hR w' hM; rw [h] at this; exact this) (fun h w' hM => by have := hR w' hM; rw [h] at this; exact this)
theorem rReadMembers12_u (x : Tx) (S : List UInt8) (hS : S.length ≤ maxLen) (w : World) (R : Ending → World → Prop) (hR : ∀ sv w', w'.ownsRow w.heap.size 126 2 sv ((unmbS x.1 S).getD []).length (((unmbS x.1 S).getD []).flatMap mbC) → Mod [] w w' → R (.returned (.tuple #[sv, .bool (unmbS x.1 S).isSome])) w') :
    Calls Tryz.prog 49 #[txV x, .string ⟨S.toArray⟩] w R :=
  rReadMembers12_cps x S hS w R (fun l sv w' h ho hM => by have := hR sv w'; rw [h] at this; exact this ho hM) (fun h w' hM => by have := hR (.slice none 0 0) w'; rw [h] at this; exact this (World.ownsRow_nil _ _ _ _) hM)
theorem unmb_get (c : Int) (S : List UInt8) : ((unmbS c S).getD []).length ≤ 6 ∧ ∀ x ∈ (unmbS c S).getD [], x.2.length ≤ 16384 := by
  cases h : unmbS c S with
  | none => simp
  | some l =>
    have hB := (unmb_back h).2
    unfold mbB at hB
    rw [Bool.and_eq_true] at hB
    exact ⟨(of_decide_eq_true hB.2).2, fun y hy => (check0 (mbs_el hB.1 y hy).2.2).2.2.1⟩
theorem num_get (S : List UInt8) : (numT S).getD 0 ≤ 2147483647 := by
  cases h : numT S with
  | none => simp
  | some v => exact (of_numT h).2
theorem modSet9G {F : List Nat} {v w : World} {p : Nat} {x0 x1 x2 x3 x4 x5 x6 x7 x8 : Value} (h : Mod F v w) (hn : p ∈ F ∨ v.heap.size ≤ p) : Mod F v (((((((((w.setCell ⟨p, 0, none⟩ x0).setCell ⟨p, 1, none⟩ x1).setCell ⟨p, 2, none⟩ x2).setCell ⟨p, 3, none⟩ x3).setCell ⟨p, 4, none⟩ x4).setCell ⟨p, 5, none⟩ x5).setCell ⟨p, 6, none⟩ x6).setCell ⟨p, 7, none⟩ x7).setCell ⟨p, 8, none⟩ x8) :=
  ((((((((h.set (p := ⟨p, 0, none⟩) hn x0).set (p := ⟨p, 1, none⟩) hn x1).set (p := ⟨p, 2, none⟩) hn x2).set (p := ⟨p, 3, none⟩) hn x3).set (p := ⟨p, 4, none⟩) hn x4).set (p := ⟨p, 5, none⟩) hn x5).set (p := ⟨p, 6, none⟩) hn x6).set (p := ⟨p, 7, none⟩) hn x7).set (p := ⟨p, 8, none⟩) hn x8
theorem cell_lt {w : World} {b o : Nat} {v : Value} (h : w.cell? ⟨b, o, none⟩ = some v) : b < w.heap.size := by
  by_cases hb : b < w.heap.size
  · exact hb
  · have : w.heap[b]? = none := Array.getElem?_eq_none (by omega)
    simp [World.cell?, this] at h
theorem nuV_u (o : Option Nat) : nuV o = .tuple #[.int .i64 ((o.getD 0 : Nat) : Int), .bool o.isSome] := by cases o <;> rfl
set_option maxRecDepth 20000 in
set_option maxHeartbeats 64000000 in
theorem rDecode12_cps (S : List UInt8) (hS : S.length ≤ maxLen) (w : World) (R : Ending → World → Prop)
    (h1 : ∀ m sv w', decO S = some m → w'.ownsRow w.heap.size 126 2 sv m.mbs.length (m.mbs.flatMap mbC) → Mod [] w w' → R (.returned (.tuple #[msgV m sv, .int .i64 0])) w') (h0 : decO S = none → ∀ w', Mod [] w w' → R (.returned (.tuple #[msgZ, .int .i64 7])) w') :
    Calls Tryz.prog 25 #[.string ⟨S.toArray⟩] w R := by
  unfold msgZ at h0
  refine calls_go 4000 okT Tryz.func25 rfl (rs := [.cell 2 35, .tmp 3]) rfl Tryz.ntmps25 (args := [.string ⟨S.toArray⟩]) ?_
  simp (maxSteps := 1000000) (disch := first | omega | (simp only [sizeAlloc, sizeDrew, sizeSet, sizePut] <;> omega) | fail) only [GS, TT_eq, TTl, Nat.reduceAdd, Nat.reduceMul, Nat.reduceSub, Nat.reduceDiv, Nat.reduceMod, Nat.reducePow, Nat.reduceEqDiff, ↓reduceIte, reduceCtorEq, Int.reduceToNat, Int.reduceAdd, Int.reduceSub, Int.reduceMul]
  generalize hW : w.alloc (.cells #[.int .u8 0, .int .i64 0, .int .i64 0, .int .i64 0, .int .i64 0, .slice none 0 0, .string ⟨#[]⟩, .bool false, .string ⟨#[]⟩] 35) = w1
  obtain ⟨hZ, hM0⟩ := box9' hW
  clear hW
  generalize hn : w.heap.size = n at *
  have hgeZ : w.heap.size ≤ n := by omega
  by_cases hc : checkS S = 0
  rotate_left
  · have hk : kindS S = 0 := by unfold kindS; rw [if_neg hc]
    refine ⟨fok79, rPartsA_cps S hS _ _ (fun _ w2 hM2 => .inl ⟨_, rfl, hold_ops okT (rs := [.cell 2 35, .tmp 3]) rfl ?_⟩) (fun h => absurd h hc)⟩
    simp (maxSteps := 1000000) (disch := first | omega | (simp only [sizeAlloc, sizeDrew, sizeSet, sizePut] <;> omega) | fail) only [GS, TT_eq, TTl, Nat.reduceAdd, Nat.reduceMul, Nat.reduceSub, Nat.reduceDiv, Nat.reduceMod, Nat.reducePow, Nat.reduceEqDiff, ↓reduceIte, reduceCtorEq, Int.reduceToNat, Int.reduceAdd, Int.reduceSub, Int.reduceMul]
    refine ⟨fok97, rKindA_cps S hS _ _ fun w3 hM3 => .inl ⟨_, rfl, hold_ops okT (rs := [.cell 2 35, .tmp 3]) rfl ?_⟩⟩
    rw [hk]
    have hZ3 := hM3.get (hM2.get hZ (by simp)) (by simp)
    have hM03 := (hM0.trans hM2 (by simp)).trans hM3 (by simp)
    have c3 := fun o => cellOf (o := o) hZ3
    have x3 := fun o => frozenOf (o := o) hZ3
    simp (maxSteps := 1000000) (disch := first | omega | (simp only [sizeAlloc, sizeDrew, sizeSet, sizePut] <;> omega) | fail) only [GS, TT_eq, TTl, Nat.reduceAdd, Nat.reduceMul, Nat.reduceSub, Nat.reduceDiv, Nat.reduceMod, Nat.reducePow, Nat.reduceEqDiff, ↓reduceIte, reduceCtorEq, Int.reduceToNat, Int.reduceAdd, Int.reduceSub, Int.reduceMul, c3, x3]
    refine load9 (st9 hZ3) ?_
    exact h0 (rd_none0 fun h => by rw [hk] at h; simp at h) _ (modSet9 hM03 hgeZ)
  refine ⟨fok79, rPartsA_cps S hS _ _ (fun h => absurd hc h) (fun _ sv w2 hown hM2 => .inl ⟨_, rfl, hold_ops okT (rs := [.cell 2 35, .tmp 3]) rfl ?_⟩)⟩
  obtain ⟨pa, pc, rfl⟩ := (Rd.own hown).slice
  have hlp := partsS_len S
  have hlS := (check0 hc).2.2.1
  simp (maxSteps := 1000000) (disch := first | omega | (simp only [sizeAlloc, sizeDrew, sizeSet, sizePut] <;> omega) | fail) only [GS, TT_eq, TTl, Nat.reduceAdd, Nat.reduceMul, Nat.reduceSub, Nat.reduceDiv, Nat.reduceMod, Nat.reducePow, Nat.reduceEqDiff, ↓reduceIte, reduceCtorEq, Int.reduceToNat, Int.reduceAdd, Int.reduceSub, Int.reduceMul]
  refine ⟨fok97, rKindA_cps S hS _ _ fun w3 hM3 => .inl ⟨_, rfl, hold_ops okT (rs := [.cell 2 35, .tmp 3]) rfl ?_⟩⟩
  have hM23 := hM2.trans hM3 (by simp)
  have hZ3 := hM23.get hZ (by simp)
  have hM03 := hM0.trans hM23 (by simp)
  have hrp := (Rd.own hown).mod hM3 (by simp)
  have c3 := fun o => cellOf (o := o) hZ3
  have x3 := fun o => frozenOf (o := o) hZ3
  have hpo := parts_ok hc
  have hno0 := @rd_none0 S
  have hno := @rd_none S
  have hso := fun k => @rd_some k S
  clear hZ hown hM2 hM3 hM23 hM0
  by_cases hk : (kindS S : Int) = 3
  rotate_left
  · simp (maxSteps := 1000000) (disch := first | omega | (simp only [sizeAlloc, sizeDrew, sizeSet, sizePut] <;> omega) | fail) only [GS, TT_eq, TTl, Nat.reduceAdd, Nat.reduceMul, Nat.reduceSub, Nat.reduceDiv, Nat.reduceMod, Nat.reducePow, Nat.reduceEqDiff, ↓reduceIte, reduceCtorEq, Int.reduceToNat, Int.reduceAdd, Int.reduceSub, Int.reduceMul, c3, x3, hk]
    refine load9 (st9 hZ3) ?_
    exact h0 (hno0 fun h => by omega) _ (modSet9 hM03 hgeZ)
  have hlps : (partsS S).length ≤ S.length := hlp
  generalize partsS S = L at *
  by_cases hl0 : ((L.length : Nat) : Int) = 0
  · simp (maxSteps := 1000000) (disch := first | omega | (simp only [sizeAlloc, sizeDrew, sizeSet, sizePut] <;> omega) | fail) only [GS, TT_eq, TTl, Nat.reduceAdd, Nat.reduceMul, Nat.reduceSub, Nat.reduceDiv, Nat.reduceMod, Nat.reducePow, Nat.reduceEqDiff, ↓reduceIte, reduceCtorEq, Int.reduceToNat, Int.reduceAdd, Int.reduceSub, Int.reduceMul, c3, x3, hk, hl0]
    refine load9 (st9 hZ3) ?_
    exact h0 (hno0 fun h => List.length_eq_zero_iff.1 (by omega)) _ (modSet9 hM03 hgeZ)
  obtain ⟨b1, o1, c1, e1, _, g1⟩ := hrp.at (by omega) (by omega)
  rw [Value.slice.injEq] at e1
  obtain ⟨rfl, -, rfl⟩ := e1
  have hf : ∀ i, i < L.length → w3.cell? ⟨b1, o1 + i, none⟩ = some (.string ⟨(L.getD i []).toArray⟩) := fun i hi => by
    have := g1 i _ (getS hi)
    rw [List.getD_eq_getElem?_getD, List.getElem?_eq_getElem hi, Option.getD_some]
    exact this
  have hpl : ∀ i, i < L.length → (L.getD i []).length ≤ 16384 := fun i hi => by
    rw [List.getD_eq_getElem?_getD, List.getElem?_eq_getElem hi, Option.getD_some]
    exact (check0 (hpo _ (List.getElem_mem hi))).2.2.1
  clear g1 hrp hpo hno0
  have f0 : w3.cell? ⟨b1, o1, none⟩ = some (.string ⟨(L.getD 0 []).toArray⟩) := hf 0 (by omega)
  simp (maxSteps := 1000000) (disch := first | omega | (simp only [sizeAlloc, sizeDrew, sizeSet, sizePut] <;> omega) | fail) only [GS, TT_eq, TTl, Nat.reduceAdd, Nat.reduceMul, Nat.reduceSub, Nat.reduceDiv, Nat.reduceMod, Nat.reducePow, Nat.reduceEqDiff, ↓reduceIte, reduceCtorEq, Int.reduceToNat, Int.reduceAdd, Int.reduceSub, Int.reduceMul, hk, hl0, f0]
  refine ⟨fok98, rTextA_cps _ (by have := hpl 0 (by omega); unfold maxLen; omega) _ _ fun w4 hM4 => .inl ⟨_, rfl, hold_ops okT (rs := [.cell 2 35, .tmp 3]) rfl ?_⟩⟩
  have hZ4 := hM4.get hZ3 (by simp)
  have hM04 := hM03.trans hM4 (by simp)
  have hf4 := fun i hi => cellM (hf i hi) hM4
  clear hf f0 c3 x3 hZ3
  generalize (textS (L.getD 0 [])) = Tx0 at *
  obtain ⟨wd, ws⟩ := Tx0
  simp only at hno ⊢
  simp (maxSteps := 1000000) (disch := first | omega | (simp only [sizeAlloc, sizeDrew, sizeSet, sizePut] <;> omega) | fail) only [GS, TT_eq, TTl, Nat.reduceAdd, Nat.reduceMul, Nat.reduceSub, Nat.reduceDiv, Nat.reduceMod, Nat.reducePow, Nat.reduceEqDiff, ↓reduceIte, reduceCtorEq, Int.reduceToNat, Int.reduceAdd, Int.reduceSub, Int.reduceMul]
  refine hold_loop okT (rs := [.cell 2 35, .tmp 3]) rfl [8] [3, 9, 10, 11, 33, 34, 35, 36, 37, 38, 39, 40, 41, 42, 43, 44, 45, 46, 47, 48, 49, 50, 51, 52, 53, 54, 55, 56, 57, 58, 59, 60, 61, 62, 63, 64, 65, 66, 67, 68, 69, 70, 71, 72, 73, 74, 75, 76, 77, 78, 79, 80, 81, 82, 83, 84, 85, 86, 87, 88, 89, 90, 91, 92, 93, 94, 95, 96, 97, 98, 99, 100, 101, 102, 103, 104, 105, 106, 107, 108, 109, 110, 111, 112, 113, 114, 115, 116, 117, 118, 119, 120, 121, 122, 123] (fun vs w' => ∃ j : Nat, vs = [.int .u8 j] ∧ 1 ≤ j ∧ j ≤ 7 ∧ (∀ k, 1 ≤ k → k < j → wd = wordS k → ¬ encS k (rdM k L) = (S, 0)) ∧ Mod [] w4 w') (fun vs _ => match vs with | [.int _ i] => 7 - i.toNat | _ => 0) (by kernel_rfl) ⟨1, rfl, by omega, by omega, by omega, Mod.refl [] w4⟩ ?_
  rintro vs w5 J ⟨j, rfl, hj1, hj7, hjn, hM5⟩
  have hZ5 := hM5.get hZ4 (by simp)
  have hM05 := hM04.trans hM5 (by simp)
  have hf5 := fun i hi => cellM (hf4 i hi) hM5
  by_cases hj6 : (j : Int) ≤ 6
  rotate_left
  · have c5 := fun o => cellOf (o := o) hZ5
    have x5 := fun o => frozenOf (o := o) hZ5
    simp (maxSteps := 1000000) (disch := first | omega | (simp only [sizeAlloc, sizeDrew, sizeSet, sizePut] <;> omega) | fail) only [GS, TT_eq, TTl, Nat.reduceAdd, Nat.reduceMul, Nat.reduceSub, Nat.reduceDiv, Nat.reduceMod, Nat.reducePow, Nat.reduceEqDiff, ↓reduceIte, reduceCtorEq, Int.reduceToNat, Int.reduceAdd, Int.reduceSub, Int.reduceMul, c5, x5, hj6]
    refine load9 (st9 hZ5) ?_
    exact h0 (hno fun k h1 h2 h3 => hjn k h1 (by omega) h3) _ (modSet9 hM05 hgeZ)
  simp (maxSteps := 1000000) (disch := first | omega | (simp only [sizeAlloc, sizeDrew, sizeSet, sizePut] <;> omega) | fail) only [GS, TT_eq, TTl, Nat.reduceAdd, Nat.reduceMul, Nat.reduceSub, Nat.reduceDiv, Nat.reduceMod, Nat.reducePow, Nat.reduceEqDiff, ↓reduceIte, reduceCtorEq, Int.reduceToNat, Int.reduceAdd, Int.reduceSub, Int.reduceMul, hj6]
  refine ⟨fok23, rWord_cps j (by omega) _ _ (.inl ⟨_, rfl, hold_ops okT (rs := [.cell 2 35, .tmp 3]) rfl ?_⟩)⟩
  by_cases hwd : wordS j = wd
  rotate_left
  · simp (maxSteps := 1000000) (disch := first | omega | (simp only [sizeAlloc, sizeDrew, sizeSet, sizePut] <;> omega) | fail) only [GS, TT_eq, TTl, Nat.reduceAdd, Nat.reduceMul, Nat.reduceSub, Nat.reduceDiv, Nat.reduceMod, Nat.reducePow, Nat.reduceEqDiff, ↓reduceIte, reduceCtorEq, Int.reduceToNat, Int.reduceAdd, Int.reduceSub, Int.reduceMul, hwd]
    refine ⟨⟨j + 1, rfl, by omega, by omega, ?_, hM5⟩, by omega⟩
    intro k hk1 hk2 hk3
    by_cases h : k = j
    · subst h; exact absurd hk3.symm hwd
    · exact hjn k hk1 (by omega) hk3
  subst hwd
  simp (maxSteps := 1000000) (disch := first | omega | (simp only [sizeAlloc, sizeDrew, sizeSet, sizePut] <;> omega) | fail) only [GS, TT_eq, TTl, Nat.reduceAdd, Nat.reduceMul, Nat.reduceSub, Nat.reduceDiv, Nat.reduceMod, Nat.reducePow, Nat.reduceEqDiff, ↓reduceIte, reduceCtorEq, Int.reduceToNat, Int.reduceAdd, Int.reduceSub, Int.reduceMul, eq_self]
  generalize hW : ((((((((((w5.alloc (.cells #[.int .u8 0, .int .i64 0, .int .i64 0, .int .i64 0, .int .i64 0, .slice none 0 0, .string ⟨#[]⟩, .bool false, .string ⟨#[]⟩] 35)).setCell ⟨w5.heap.size, 0, none⟩ (.int .u8 j)).setCell ⟨w5.heap.size, 1, none⟩ (.int .i64 0)).setCell ⟨w5.heap.size, 2, none⟩ (.int .i64 0)).setCell ⟨w5.heap.size, 3, none⟩ (.int .i64 0)).setCell ⟨w5.heap.size, 4, none⟩ (.int .i64 0)).setCell ⟨w5.heap.size, 5, none⟩ (.slice none 0 0)).setCell ⟨w5.heap.size, 6, none⟩ (.string ⟨#[]⟩)).setCell ⟨w5.heap.size, 7, none⟩ (.bool false)).setCell ⟨w5.heap.size, 8, none⟩ (.string ⟨#[]⟩)) = w6
  obtain ⟨hh6, hM56⟩ := box9 hW
  clear hW
  have hqn : n < w5.heap.size := (Array.getElem?_eq_some_iff.1 hZ5).1
  have hgeq : w4.heap.size ≤ w5.heap.size := hM5.size
  have hge4 := hM04.size
  generalize w5.heap.size = q at *
  have hM6 := hM5.trans hM56 (by simp)
  have hf6 := fun i hi => cellM (hf5 i hi) hM56
  have hgeB : n ≤ q + 1 := by omega
  have hb1 := cell_lt (hf4 0 (by omega))
  have hO6 : w6.ownsRow (q + 1) 126 2 (.slice none 0 0) ([] : List Mb).length (([] : List Mb).flatMap mbC) := World.ownsRow_nil _ _ _ _
  have hbm : ∀ x : Bool, bnd x false = false := by decide
  by_cases hl1 : (1 : Int) < ((L.length : Nat) : Int)
  rotate_left
  · have hl5 : ¬ ((L.length : Nat) : Int) = 5 := by omega
    have hl2 : ¬ (2 : Int) < ((L.length : Nat) : Int) := by omega
    have hl3 : ¬ (3 : Int) < ((L.length : Nat) : Int) := by omega
    have hTx : rdTx L = (0, 0, 0) := by unfold rdTx; rw [if_neg (by omega)]
    by_cases hk1 : (j : Int) = 1
    · have c6 := fun o => cellOf (o := o) hh6
      simp (maxSteps := 1000000) (disch := first | omega | (simp only [sizeAlloc, sizeDrew, sizeSet, sizePut] <;> omega) | fail) only [GS, TT_eq, TTl, Nat.reduceAdd, Nat.reduceMul, Nat.reduceSub, Nat.reduceDiv, Nat.reduceMod, Nat.reducePow, Nat.reduceEqDiff, ↓reduceIte, reduceCtorEq, Int.reduceToNat, Int.reduceAdd, Int.reduceSub, Int.reduceMul, c6, hl1, hl5, hl2, hl3, hbm, (decide_eq_true hk1), (decide_eq_false (show ¬ (j : Int) = 2 by omega)), (decide_eq_false (show ¬ (j : Int) = 3 by omega))]
      have hME : rdM j L = ⟨(j : Int), (0, 0, 0), 0, [], [], false, []⟩ := by unfold rdM; rw [if_neg (by omega), decide_eq_false (fun h => by have h1 := h.1; have h2 := h.2.1; omega), if_neg (by omega), hTx]
      have osv := ownsRow_one hO6
      have hE := fun R h => rEncode12_cps ⟨(j : Int), (0, 0, 0), 0, [], [], false, []⟩ j rfl (by omega) (.slice none 0 0) (show -9223372036854775808 ≤ (0 : Int) by decide) (show (0 : Int) ≤ 9223372036854775807 by decide) (show ([] : List UInt8).length ≤ maxLen by simp) (show ([] : List UInt8).length ≤ maxLen by simp) (show ([] : List Mb).length ≤ 1000000 by simp) (show ∀ x ∈ ([] : List Mb), x.2.length ≤ maxLen by simp) w6 (Rd.own hO6) R h
      have hso' := hso j
      have hj' : ¬ encS j ⟨(j : Int), (0, 0, 0), 0, [], [], false, []⟩ = (S, 0) → ∀ k, 1 ≤ k → k < j + 1 → wordS j = wordS k → ¬ encS k (rdM k L) = (S, 0) := fun hne k hk1 hk2 hk3 => by
        by_cases h : k = j
        · subst h; rw [hME]; exact hne
        · exact hjn k hk1 (by omega) hk3
      rw [hME] at hso'
      unfold msgV msgC stV at hE
      simp only at hE
      generalize hEE : encS j ⟨(j : Int), (0, 0, 0), 0, [], [], false, []⟩ = E at *
      obtain ⟨ea, ee⟩ := E
      simp only at hE
      refine ⟨fok18, hE _ fun wZ hMZ => .inl ⟨_, rfl, hold_ops okT (rs := [.cell 2 35, .tmp 3]) rfl ?_⟩⟩
      have hhZ := hMZ.get hh6 (by simp)
      have hZZ := hMZ.get (hM6.get hZ4 (by simp)) (by simp)
      have hM4Z := hM6.trans hMZ (by simp)
      by_cases he : ee = 0
      rotate_left
      · simp (maxSteps := 1000000) (disch := first | omega | (simp only [sizeAlloc, sizeDrew, sizeSet, sizePut] <;> omega) | fail) only [GS, TT_eq, TTl, Nat.reduceAdd, Nat.reduceMul, Nat.reduceSub, Nat.reduceDiv, Nat.reduceMod, Nat.reducePow, Nat.reduceEqDiff, ↓reduceIte, reduceCtorEq, Int.reduceToNat, Int.reduceAdd, Int.reduceSub, Int.reduceMul, he]
        refine ⟨⟨j + 1, rfl, by omega, by omega, hj' (fun h => he (by simp only [Prod.mk.injEq] at h; exact h.2)), hM4Z⟩, by omega⟩
      by_cases ht : ea = S
      rotate_left
      · simp (maxSteps := 1000000) (disch := first | omega | (simp only [sizeAlloc, sizeDrew, sizeSet, sizePut] <;> omega) | fail) only [GS, TT_eq, TTl, Nat.reduceAdd, Nat.reduceMul, Nat.reduceSub, Nat.reduceDiv, Nat.reduceMod, Nat.reducePow, Nat.reduceEqDiff, ↓reduceIte, reduceCtorEq, Int.reduceToNat, Int.reduceAdd, Int.reduceSub, Int.reduceMul, he, ht]
        refine ⟨⟨j + 1, rfl, by omega, by omega, hj' (fun h => ht (by simp only [Prod.mk.injEq] at h; exact h.1)), hM4Z⟩, by omega⟩
      have cZ := fun o => cellOf (o := o) hhZ
      have xZ := fun o => frozenOf (o := o) hZZ
      have dZ := fun o => cellOf (o := o) hZZ
      subst he ht
      simp (maxSteps := 1000000) (disch := first | omega | (simp only [sizeAlloc, sizeDrew, sizeSet, sizePut] <;> omega) | fail) only [GS, TT_eq, TTl, Nat.reduceAdd, Nat.reduceMul, Nat.reduceSub, Nat.reduceDiv, Nat.reduceMod, Nat.reducePow, Nat.reduceEqDiff, ↓reduceIte, reduceCtorEq, Int.reduceToNat, Int.reduceAdd, Int.reduceSub, Int.reduceMul, cZ, xZ, dZ, eq_self, osv, cellsL_one osv]
      refine load9 (st9 hZZ) ?_
      have hOZ := ownsRow_base (ownsRow_mod (S := [n]) (ownsRow_mod hO6 hMZ (by simp)) (modSet9G (F := [n]) (p := n) (x0 := .int .u8 j) (x1 := .int .i64 0) (x2 := .int .i64 0) (x3 := .int .i64 0) (x4 := .int .i64 0) (x5 := .slice none 0 0) (x6 := .string ⟨#[]⟩) (x7 := .bool false) (x8 := .string ⟨#[]⟩) (Mod.refl [n] wZ) (.inl (by simp))) (by simp; omega)) hgeB
      exact h1 ⟨(j : Int), (0, 0, 0), 0, [], [], false, []⟩ (.slice none 0 0) _ (hso' rfl) hOZ (modSet9 (x0 := .int .u8 j) (x1 := .int .i64 0) (x2 := .int .i64 0) (x3 := .int .i64 0) (x4 := .int .i64 0) (x5 := .slice none 0 0) (x6 := .string ⟨#[]⟩) (x7 := .bool false) (x8 := .string ⟨#[]⟩) (hM04.trans hM4Z (by simp)) hgeZ)
    by_cases hk2 : (j : Int) = 2
    · have c6 := fun o => cellOf (o := o) hh6
      simp (maxSteps := 1000000) (disch := first | omega | (simp only [sizeAlloc, sizeDrew, sizeSet, sizePut] <;> omega) | fail) only [GS, TT_eq, TTl, Nat.reduceAdd, Nat.reduceMul, Nat.reduceSub, Nat.reduceDiv, Nat.reduceMod, Nat.reducePow, Nat.reduceEqDiff, ↓reduceIte, reduceCtorEq, Int.reduceToNat, Int.reduceAdd, Int.reduceSub, Int.reduceMul, c6, hl1, hl5, hl2, hl3, hbm, (decide_eq_false (show ¬ (j : Int) = 1 by omega)), (decide_eq_true hk2), (decide_eq_false (show ¬ (j : Int) = 3 by omega))]
      have hME : rdM j L = ⟨(j : Int), (0, 0, 0), 0, [], [], false, []⟩ := by unfold rdM; rw [if_neg (by omega), decide_eq_false (fun h => by have h1 := h.1; have h2 := h.2.1; omega), if_neg (by omega), hTx]
      have osv := ownsRow_one hO6
      have hE := fun R h => rEncode12_cps ⟨(j : Int), (0, 0, 0), 0, [], [], false, []⟩ j rfl (by omega) (.slice none 0 0) (show -9223372036854775808 ≤ (0 : Int) by decide) (show (0 : Int) ≤ 9223372036854775807 by decide) (show ([] : List UInt8).length ≤ maxLen by simp) (show ([] : List UInt8).length ≤ maxLen by simp) (show ([] : List Mb).length ≤ 1000000 by simp) (show ∀ x ∈ ([] : List Mb), x.2.length ≤ maxLen by simp) w6 (Rd.own hO6) R h
      have hso' := hso j
      have hj' : ¬ encS j ⟨(j : Int), (0, 0, 0), 0, [], [], false, []⟩ = (S, 0) → ∀ k, 1 ≤ k → k < j + 1 → wordS j = wordS k → ¬ encS k (rdM k L) = (S, 0) := fun hne k hk1 hk2 hk3 => by
        by_cases h : k = j
        · subst h; rw [hME]; exact hne
        · exact hjn k hk1 (by omega) hk3
      rw [hME] at hso'
      unfold msgV msgC stV at hE
      simp only at hE
      generalize hEE : encS j ⟨(j : Int), (0, 0, 0), 0, [], [], false, []⟩ = E at *
      obtain ⟨ea, ee⟩ := E
      simp only at hE
      refine ⟨fok18, hE _ fun wZ hMZ => .inl ⟨_, rfl, hold_ops okT (rs := [.cell 2 35, .tmp 3]) rfl ?_⟩⟩
      have hhZ := hMZ.get hh6 (by simp)
      have hZZ := hMZ.get (hM6.get hZ4 (by simp)) (by simp)
      have hM4Z := hM6.trans hMZ (by simp)
      by_cases he : ee = 0
      rotate_left
      · simp (maxSteps := 1000000) (disch := first | omega | (simp only [sizeAlloc, sizeDrew, sizeSet, sizePut] <;> omega) | fail) only [GS, TT_eq, TTl, Nat.reduceAdd, Nat.reduceMul, Nat.reduceSub, Nat.reduceDiv, Nat.reduceMod, Nat.reducePow, Nat.reduceEqDiff, ↓reduceIte, reduceCtorEq, Int.reduceToNat, Int.reduceAdd, Int.reduceSub, Int.reduceMul, he]
        refine ⟨⟨j + 1, rfl, by omega, by omega, hj' (fun h => he (by simp only [Prod.mk.injEq] at h; exact h.2)), hM4Z⟩, by omega⟩
      by_cases ht : ea = S
      rotate_left
      · simp (maxSteps := 1000000) (disch := first | omega | (simp only [sizeAlloc, sizeDrew, sizeSet, sizePut] <;> omega) | fail) only [GS, TT_eq, TTl, Nat.reduceAdd, Nat.reduceMul, Nat.reduceSub, Nat.reduceDiv, Nat.reduceMod, Nat.reducePow, Nat.reduceEqDiff, ↓reduceIte, reduceCtorEq, Int.reduceToNat, Int.reduceAdd, Int.reduceSub, Int.reduceMul, he, ht]
        refine ⟨⟨j + 1, rfl, by omega, by omega, hj' (fun h => ht (by simp only [Prod.mk.injEq] at h; exact h.1)), hM4Z⟩, by omega⟩
      have cZ := fun o => cellOf (o := o) hhZ
      have xZ := fun o => frozenOf (o := o) hZZ
      have dZ := fun o => cellOf (o := o) hZZ
      subst he ht
      simp (maxSteps := 1000000) (disch := first | omega | (simp only [sizeAlloc, sizeDrew, sizeSet, sizePut] <;> omega) | fail) only [GS, TT_eq, TTl, Nat.reduceAdd, Nat.reduceMul, Nat.reduceSub, Nat.reduceDiv, Nat.reduceMod, Nat.reducePow, Nat.reduceEqDiff, ↓reduceIte, reduceCtorEq, Int.reduceToNat, Int.reduceAdd, Int.reduceSub, Int.reduceMul, cZ, xZ, dZ, eq_self, osv, cellsL_one osv]
      refine load9 (st9 hZZ) ?_
      have hOZ := ownsRow_base (ownsRow_mod (S := [n]) (ownsRow_mod hO6 hMZ (by simp)) (modSet9G (F := [n]) (p := n) (x0 := .int .u8 j) (x1 := .int .i64 0) (x2 := .int .i64 0) (x3 := .int .i64 0) (x4 := .int .i64 0) (x5 := .slice none 0 0) (x6 := .string ⟨#[]⟩) (x7 := .bool false) (x8 := .string ⟨#[]⟩) (Mod.refl [n] wZ) (.inl (by simp))) (by simp; omega)) hgeB
      exact h1 ⟨(j : Int), (0, 0, 0), 0, [], [], false, []⟩ (.slice none 0 0) _ (hso' rfl) hOZ (modSet9 (x0 := .int .u8 j) (x1 := .int .i64 0) (x2 := .int .i64 0) (x3 := .int .i64 0) (x4 := .int .i64 0) (x5 := .slice none 0 0) (x6 := .string ⟨#[]⟩) (x7 := .bool false) (x8 := .string ⟨#[]⟩) (hM04.trans hM4Z (by simp)) hgeZ)
    by_cases hk3 : (j : Int) = 3
    · have c6 := fun o => cellOf (o := o) hh6
      simp (maxSteps := 1000000) (disch := first | omega | (simp only [sizeAlloc, sizeDrew, sizeSet, sizePut] <;> omega) | fail) only [GS, TT_eq, TTl, Nat.reduceAdd, Nat.reduceMul, Nat.reduceSub, Nat.reduceDiv, Nat.reduceMod, Nat.reducePow, Nat.reduceEqDiff, ↓reduceIte, reduceCtorEq, Int.reduceToNat, Int.reduceAdd, Int.reduceSub, Int.reduceMul, c6, hl1, hl5, hl2, hl3, hbm, (decide_eq_false (show ¬ (j : Int) = 1 by omega)), (decide_eq_false (show ¬ (j : Int) = 2 by omega)), (decide_eq_true hk3)]
      have hME : rdM j L = ⟨(j : Int), (0, 0, 0), 0, [], [], false, []⟩ := by unfold rdM; rw [if_neg (by omega), decide_eq_false (fun h => by have h1 := h.1; have h2 := h.2.1; omega), if_neg (by omega), hTx]
      have osv := ownsRow_one hO6
      have hE := fun R h => rEncode12_cps ⟨(j : Int), (0, 0, 0), 0, [], [], false, []⟩ j rfl (by omega) (.slice none 0 0) (show -9223372036854775808 ≤ (0 : Int) by decide) (show (0 : Int) ≤ 9223372036854775807 by decide) (show ([] : List UInt8).length ≤ maxLen by simp) (show ([] : List UInt8).length ≤ maxLen by simp) (show ([] : List Mb).length ≤ 1000000 by simp) (show ∀ x ∈ ([] : List Mb), x.2.length ≤ maxLen by simp) w6 (Rd.own hO6) R h
      have hso' := hso j
      have hj' : ¬ encS j ⟨(j : Int), (0, 0, 0), 0, [], [], false, []⟩ = (S, 0) → ∀ k, 1 ≤ k → k < j + 1 → wordS j = wordS k → ¬ encS k (rdM k L) = (S, 0) := fun hne k hk1 hk2 hk3 => by
        by_cases h : k = j
        · subst h; rw [hME]; exact hne
        · exact hjn k hk1 (by omega) hk3
      rw [hME] at hso'
      unfold msgV msgC stV at hE
      simp only at hE
      generalize hEE : encS j ⟨(j : Int), (0, 0, 0), 0, [], [], false, []⟩ = E at *
      obtain ⟨ea, ee⟩ := E
      simp only at hE
      refine ⟨fok18, hE _ fun wZ hMZ => .inl ⟨_, rfl, hold_ops okT (rs := [.cell 2 35, .tmp 3]) rfl ?_⟩⟩
      have hhZ := hMZ.get hh6 (by simp)
      have hZZ := hMZ.get (hM6.get hZ4 (by simp)) (by simp)
      have hM4Z := hM6.trans hMZ (by simp)
      by_cases he : ee = 0
      rotate_left
      · simp (maxSteps := 1000000) (disch := first | omega | (simp only [sizeAlloc, sizeDrew, sizeSet, sizePut] <;> omega) | fail) only [GS, TT_eq, TTl, Nat.reduceAdd, Nat.reduceMul, Nat.reduceSub, Nat.reduceDiv, Nat.reduceMod, Nat.reducePow, Nat.reduceEqDiff, ↓reduceIte, reduceCtorEq, Int.reduceToNat, Int.reduceAdd, Int.reduceSub, Int.reduceMul, he]
        refine ⟨⟨j + 1, rfl, by omega, by omega, hj' (fun h => he (by simp only [Prod.mk.injEq] at h; exact h.2)), hM4Z⟩, by omega⟩
      by_cases ht : ea = S
      rotate_left
      · simp (maxSteps := 1000000) (disch := first | omega | (simp only [sizeAlloc, sizeDrew, sizeSet, sizePut] <;> omega) | fail) only [GS, TT_eq, TTl, Nat.reduceAdd, Nat.reduceMul, Nat.reduceSub, Nat.reduceDiv, Nat.reduceMod, Nat.reducePow, Nat.reduceEqDiff, ↓reduceIte, reduceCtorEq, Int.reduceToNat, Int.reduceAdd, Int.reduceSub, Int.reduceMul, he, ht]
        refine ⟨⟨j + 1, rfl, by omega, by omega, hj' (fun h => ht (by simp only [Prod.mk.injEq] at h; exact h.1)), hM4Z⟩, by omega⟩
      have cZ := fun o => cellOf (o := o) hhZ
      have xZ := fun o => frozenOf (o := o) hZZ
      have dZ := fun o => cellOf (o := o) hZZ
      subst he ht
      simp (maxSteps := 1000000) (disch := first | omega | (simp only [sizeAlloc, sizeDrew, sizeSet, sizePut] <;> omega) | fail) only [GS, TT_eq, TTl, Nat.reduceAdd, Nat.reduceMul, Nat.reduceSub, Nat.reduceDiv, Nat.reduceMod, Nat.reducePow, Nat.reduceEqDiff, ↓reduceIte, reduceCtorEq, Int.reduceToNat, Int.reduceAdd, Int.reduceSub, Int.reduceMul, cZ, xZ, dZ, eq_self, osv, cellsL_one osv]
      refine load9 (st9 hZZ) ?_
      have hOZ := ownsRow_base (ownsRow_mod (S := [n]) (ownsRow_mod hO6 hMZ (by simp)) (modSet9G (F := [n]) (p := n) (x0 := .int .u8 j) (x1 := .int .i64 0) (x2 := .int .i64 0) (x3 := .int .i64 0) (x4 := .int .i64 0) (x5 := .slice none 0 0) (x6 := .string ⟨#[]⟩) (x7 := .bool false) (x8 := .string ⟨#[]⟩) (Mod.refl [n] wZ) (.inl (by simp))) (by simp; omega)) hgeB
      exact h1 ⟨(j : Int), (0, 0, 0), 0, [], [], false, []⟩ (.slice none 0 0) _ (hso' rfl) hOZ (modSet9 (x0 := .int .u8 j) (x1 := .int .i64 0) (x2 := .int .i64 0) (x3 := .int .i64 0) (x4 := .int .i64 0) (x5 := .slice none 0 0) (x6 := .string ⟨#[]⟩) (x7 := .bool false) (x8 := .string ⟨#[]⟩) (hM04.trans hM4Z (by simp)) hgeZ)
    have c6 := fun o => cellOf (o := o) hh6
    simp (maxSteps := 1000000) (disch := first | omega | (simp only [sizeAlloc, sizeDrew, sizeSet, sizePut] <;> omega) | fail) only [GS, TT_eq, TTl, Nat.reduceAdd, Nat.reduceMul, Nat.reduceSub, Nat.reduceDiv, Nat.reduceMod, Nat.reducePow, Nat.reduceEqDiff, ↓reduceIte, reduceCtorEq, Int.reduceToNat, Int.reduceAdd, Int.reduceSub, Int.reduceMul, c6, hl1, hl5, hl2, hl3, hbm, (decide_eq_false (show ¬ (j : Int) = 1 by omega)), (decide_eq_false (show ¬ (j : Int) = 2 by omega)), (decide_eq_false (show ¬ (j : Int) = 3 by omega))]
    have hME : rdM j L = ⟨(j : Int), (0, 0, 0), 0, [], [], false, []⟩ := by unfold rdM; rw [if_neg (by omega), decide_eq_false (fun h => by have h1 := h.1; have h2 := h.2.1; omega), if_neg (by omega), hTx]
    have osv := ownsRow_one hO6
    have hE := fun R h => rEncode12_cps ⟨(j : Int), (0, 0, 0), 0, [], [], false, []⟩ j rfl (by omega) (.slice none 0 0) (show -9223372036854775808 ≤ (0 : Int) by decide) (show (0 : Int) ≤ 9223372036854775807 by decide) (show ([] : List UInt8).length ≤ maxLen by simp) (show ([] : List UInt8).length ≤ maxLen by simp) (show ([] : List Mb).length ≤ 1000000 by simp) (show ∀ x ∈ ([] : List Mb), x.2.length ≤ maxLen by simp) w6 (Rd.own hO6) R h
    have hso' := hso j
    have hj' : ¬ encS j ⟨(j : Int), (0, 0, 0), 0, [], [], false, []⟩ = (S, 0) → ∀ k, 1 ≤ k → k < j + 1 → wordS j = wordS k → ¬ encS k (rdM k L) = (S, 0) := fun hne k hk1 hk2 hk3 => by
      by_cases h : k = j
      · subst h; rw [hME]; exact hne
      · exact hjn k hk1 (by omega) hk3
    rw [hME] at hso'
    unfold msgV msgC stV at hE
    simp only at hE
    generalize hEE : encS j ⟨(j : Int), (0, 0, 0), 0, [], [], false, []⟩ = E at *
    obtain ⟨ea, ee⟩ := E
    simp only at hE
    refine ⟨fok18, hE _ fun wZ hMZ => .inl ⟨_, rfl, hold_ops okT (rs := [.cell 2 35, .tmp 3]) rfl ?_⟩⟩
    have hhZ := hMZ.get hh6 (by simp)
    have hZZ := hMZ.get (hM6.get hZ4 (by simp)) (by simp)
    have hM4Z := hM6.trans hMZ (by simp)
    by_cases he : ee = 0
    rotate_left
    · simp (maxSteps := 1000000) (disch := first | omega | (simp only [sizeAlloc, sizeDrew, sizeSet, sizePut] <;> omega) | fail) only [GS, TT_eq, TTl, Nat.reduceAdd, Nat.reduceMul, Nat.reduceSub, Nat.reduceDiv, Nat.reduceMod, Nat.reducePow, Nat.reduceEqDiff, ↓reduceIte, reduceCtorEq, Int.reduceToNat, Int.reduceAdd, Int.reduceSub, Int.reduceMul, he]
      refine ⟨⟨j + 1, rfl, by omega, by omega, hj' (fun h => he (by simp only [Prod.mk.injEq] at h; exact h.2)), hM4Z⟩, by omega⟩
    by_cases ht : ea = S
    rotate_left
    · simp (maxSteps := 1000000) (disch := first | omega | (simp only [sizeAlloc, sizeDrew, sizeSet, sizePut] <;> omega) | fail) only [GS, TT_eq, TTl, Nat.reduceAdd, Nat.reduceMul, Nat.reduceSub, Nat.reduceDiv, Nat.reduceMod, Nat.reducePow, Nat.reduceEqDiff, ↓reduceIte, reduceCtorEq, Int.reduceToNat, Int.reduceAdd, Int.reduceSub, Int.reduceMul, he, ht]
      refine ⟨⟨j + 1, rfl, by omega, by omega, hj' (fun h => ht (by simp only [Prod.mk.injEq] at h; exact h.1)), hM4Z⟩, by omega⟩
    have cZ := fun o => cellOf (o := o) hhZ
    have xZ := fun o => frozenOf (o := o) hZZ
    have dZ := fun o => cellOf (o := o) hZZ
    subst he ht
    simp (maxSteps := 1000000) (disch := first | omega | (simp only [sizeAlloc, sizeDrew, sizeSet, sizePut] <;> omega) | fail) only [GS, TT_eq, TTl, Nat.reduceAdd, Nat.reduceMul, Nat.reduceSub, Nat.reduceDiv, Nat.reduceMod, Nat.reducePow, Nat.reduceEqDiff, ↓reduceIte, reduceCtorEq, Int.reduceToNat, Int.reduceAdd, Int.reduceSub, Int.reduceMul, cZ, xZ, dZ, eq_self, osv, cellsL_one osv]
    refine load9 (st9 hZZ) ?_
    have hOZ := ownsRow_base (ownsRow_mod (S := [n]) (ownsRow_mod hO6 hMZ (by simp)) (modSet9G (F := [n]) (p := n) (x0 := .int .u8 j) (x1 := .int .i64 0) (x2 := .int .i64 0) (x3 := .int .i64 0) (x4 := .int .i64 0) (x5 := .slice none 0 0) (x6 := .string ⟨#[]⟩) (x7 := .bool false) (x8 := .string ⟨#[]⟩) (Mod.refl [n] wZ) (.inl (by simp))) (by simp; omega)) hgeB
    exact h1 ⟨(j : Int), (0, 0, 0), 0, [], [], false, []⟩ (.slice none 0 0) _ (hso' rfl) hOZ (modSet9 (x0 := .int .u8 j) (x1 := .int .i64 0) (x2 := .int .i64 0) (x3 := .int .i64 0) (x4 := .int .i64 0) (x5 := .slice none 0 0) (x6 := .string ⟨#[]⟩) (x7 := .bool false) (x8 := .string ⟨#[]⟩) (hM04.trans hM4Z (by simp)) hgeZ)
  have f1 := hf6 1 (by omega)
  simp (maxSteps := 1000000) (disch := first | omega | (simp only [sizeAlloc, sizeDrew, sizeSet, sizePut] <;> omega) | fail) only [GS, TT_eq, TTl, Nat.reduceAdd, Nat.reduceMul, Nat.reduceSub, Nat.reduceDiv, Nat.reduceMod, Nat.reducePow, Nat.reduceEqDiff, ↓reduceIte, reduceCtorEq, Int.reduceToNat, Int.reduceAdd, Int.reduceSub, Int.reduceMul, hl1, f1]
  refine ⟨fok47, rReadTxn12_u _ (by have := hpl 1 (by omega); unfold maxLen; omega) _ _ fun w7 hM67 => .inl ⟨_, rfl, hold_stop (s' := some 12) (hold_ops okT (rs := [.cell 2 35, .tmp 3]) rfl ?_)⟩⟩
  have hh7 := hM67.get hh6 (by simp)
  have x7 := fun o => frozenOf (o := o) hh7
  have c7 := fun o => cellOf (o := o) hh7
  have hTx : rdTx L = (untxO (L.getD 1 [])).getD (0, 0, 0) := by unfold rdTx; rw [if_pos (by omega)]
  have hM7 := hM6.trans hM67 (by simp)
  generalize (untxO (L.getD 1 [])).getD (0, 0, 0) = X at *
  generalize (untxO (L.getD 1 [])).isSome = xd at *
  obtain ⟨xa, xb, xc⟩ := X
  unfold txV
  simp only
  simp (maxSteps := 1000000) (disch := first | omega | (simp only [sizeAlloc, sizeDrew, sizeSet, sizePut] <;> omega) | fail) only [GS, TT_eq, TTl, Nat.reduceAdd, Nat.reduceMul, Nat.reduceSub, Nat.reduceDiv, Nat.reduceMod, Nat.reducePow, Nat.reduceEqDiff, ↓reduceIte, reduceCtorEq, Int.reduceToNat, Int.reduceAdd, Int.reduceSub, Int.reduceMul, x7, c7]
  have hh8 : (((w7.setCell ⟨q, 1, none⟩ (.int .i64 xa)).setCell ⟨q, 2, none⟩ (.int .i64 xb)).setCell ⟨q, 3, none⟩ (.int .i64 xc)).heap[q]? = some (.cells #[.int .u8 j, .int .i64 xa, .int .i64 xb, .int .i64 xc, .int .i64 0, .slice none 0 0, .string ⟨#[]⟩, .bool false, .string ⟨#[]⟩] 35 (0, 0)) := by rw [heapSet (heapSet (heapSet hh7))]; rfl
  have hM8 := ((hM7.set (p := ⟨q, 1, none⟩) (.inr hgeq) (.int .i64 xa)).set (p := ⟨q, 2, none⟩) (.inr hgeq) (.int .i64 xb)).set (p := ⟨q, 3, none⟩) (.inr hgeq) (.int .i64 xc)
  revert hh8 hM8
  generalize ((w7.setCell ⟨q, 1, none⟩ (.int .i64 xa)).setCell ⟨q, 2, none⟩ (.int .i64 xb)).setCell ⟨q, 3, none⟩ (.int .i64 xc) = w8
  intro hh8 hM8
  clear hh6 hh7 hM6 hM67 hM7 x7 c7 f1 hf6 hf5 hM56 hO6
  have hO8 : w8.ownsRow (q + 1) 126 2 (.slice none 0 0) ([] : List Mb).length (([] : List Mb).flatMap mbC) := World.ownsRow_nil _ _ _ _
  have hf8 := fun i hi => cellM (hf4 i hi) hM8
  have hq8 := (Array.getElem?_eq_some_iff.1 hh8).1
  refine hold_stop (s' := none) ?_
  refine hold_code okT (rs := [.cell 2 35, .tmp 3]) rfl ?_
  by_cases hk1 : (j : Int) = 1
  · by_cases hl5 : ((L.length : Nat) : Int) = 5
    · have f2 := hf8 2 (by omega)
      have c8 := fun o => cellOf (o := o) hh8
      simp (maxSteps := 1000000) (disch := first | omega | (simp only [sizeAlloc, sizeDrew, sizeSet, sizePut] <;> omega) | fail) only [GS, TT_eq, TTl, Nat.reduceAdd, Nat.reduceMul, Nat.reduceSub, Nat.reduceDiv, Nat.reduceMod, Nat.reducePow, Nat.reduceEqDiff, ↓reduceIte, reduceCtorEq, Int.reduceToNat, Int.reduceAdd, Int.reduceSub, Int.reduceMul, (decide_eq_true hk1), hl5, f2]
      refine ⟨fok80, rReadNumA_cps _ (by have := hpl 2 (by omega); unfold maxLen; omega) _ _ fun w9 hM89 => .inl ⟨_, rfl, hold_ops okT (rs := [.cell 2 35, .tmp 3]) rfl ?_⟩⟩
      rw [nuV_u]
      have hh9 := hM89.get hh8 (by simp)
      have x9 := fun o => frozenOf (o := o) hh9
      have c9 := fun o => cellOf (o := o) hh9
      have hM9 := hM8.trans hM89 (by simp)
      generalize hA : (numT (L.getD 2 [])).getD 0 = nA at *
      have hnA : nA ≤ 2147483647 := by rw [← hA]; exact num_get _
      simp (maxSteps := 1000000) (disch := first | omega | (simp only [sizeAlloc, sizeDrew, sizeSet, sizePut] <;> omega) | fail) only [GS, TT_eq, TTl, Nat.reduceAdd, Nat.reduceMul, Nat.reduceSub, Nat.reduceDiv, Nat.reduceMod, Nat.reducePow, Nat.reduceEqDiff, ↓reduceIte, reduceCtorEq, Int.reduceToNat, Int.reduceAdd, Int.reduceSub, Int.reduceMul, x9, c9]
      refine hold_draw okT (rs := [.cell 2 35, .tmp 3]) rfl [0, 1, 0, 4, 12, 31, 63, 127, 127, 255, 767] [0, 1, 2, 3, 4, 5, 6, 7, 8, 9, 10] (by kernel_rfl) (by kernel_rfl) ?_
      have hh10 : ((w9.setCell ⟨q, 4, none⟩ (.int .i64 ((nA : Nat) : Int))).drewN 1).heap[q]? = some (.cells #[.int .u8 j, .int .i64 xa, .int .i64 xb, .int .i64 xc, .int .i64 ((nA : Nat) : Int), .slice none 0 0, .string ⟨#[]⟩, .bool false, .string ⟨#[]⟩] 35 (0, 0)) := by show (w9.setCell ⟨q, 4, none⟩ (.int .i64 ((nA : Nat) : Int))).heap[q]? = _; rw [heapSet hh9]; rfl
      have hM10 := (hM9.set (p := ⟨q, 4, none⟩) (.inr hgeq) (.int .i64 ((nA : Nat) : Int))).drewN 1
      revert hh10 hM10
      generalize (w9.setCell ⟨q, 4, none⟩ (.int .i64 ((nA : Nat) : Int))).drewN 1 = w10
      intro hh10 hM10
      have hf10 := fun i hi => cellM (hf4 i hi) hM10
      have f3 := hf10 3 (by omega)
      have c10 := fun o => cellOf (o := o) hh10
      have hq10 := (Array.getElem?_eq_some_iff.1 hh10).1
      have hRM := fun w R h => rReadMembers12_u (xa, xb, xc) (L.getD 3 []) (by have := hpl 3 (by omega); unfold maxLen; omega) w R h
      unfold txV at hRM
      simp only at hRM
      simp (maxSteps := 1000000) (disch := first | omega | (simp only [sizeAlloc, sizeDrew, sizeSet, sizePut] <;> omega) | fail) only [GS, TT_eq, TTl, Nat.reduceAdd, Nat.reduceMul, Nat.reduceSub, Nat.reduceDiv, Nat.reduceMod, Nat.reducePow, Nat.reduceEqDiff, ↓reduceIte, reduceCtorEq, Int.reduceToNat, Int.reduceAdd, Int.reduceSub, Int.reduceMul, c10, f3]
      refine ⟨fok49, hRM _ _ fun mv w11 hO11 hM1011 => .inl ⟨_, rfl, ?_⟩⟩
      have hh11 := hM1011.get hh10 (by simp)
      have hM11 := hM10.trans hM1011 (by simp)
      have x11 := fun o => frozenOf (o := o) hh11
      have c11 := fun o => cellOf (o := o) hh11
      have f3' := cellM f3 hM1011
      have f4 := cellM (hf10 4 (by omega)) hM1011
      first | refine hold_stop (s' := some 16) (hold_dops okT (rs := [.cell 2 35, .tmp 3]) rfl ?_) | refine ⟨(by repeat' (first | exact f3' | exact c11 _ | apply And.intro)), hold_stop (s' := some 16) (hold_dops okT (rs := [.cell 2 35, .tmp 3]) rfl ?_)⟩
      have osv := ownsRow_one hO11
      obtain ⟨hl6, hd6⟩ := unmb_get xa (L.getD 3 [])
      generalize hBB : (unmbS xa (L.getD 3 [])).getD [] = mm at *
      generalize (unmbS xa (L.getD 3 [])).isSome = ms at *
      simp (maxSteps := 1000000) (disch := first | omega | (simp only [sizeAlloc, sizeDrew, sizeSet, sizePut] <;> omega) | fail) only [GS, TT_eq, TTl, Nat.reduceAdd, Nat.reduceMul, Nat.reduceSub, Nat.reduceDiv, Nat.reduceMod, Nat.reducePow, Nat.reduceEqDiff, ↓reduceIte, reduceCtorEq, Int.reduceToNat, Int.reduceAdd, Int.reduceSub, Int.reduceMul, x11, c11, f4, osv, cellsL_one osv]
      have hh12 : ((w11.setCell ⟨q, 5, none⟩ mv).setCell ⟨q, 6, none⟩ (.string ⟨(L.getD 4 []).toArray⟩)).heap[q]? = some (.cells #[.int .u8 j, .int .i64 xa, .int .i64 xb, .int .i64 xc, .int .i64 ((nA : Nat) : Int), mv, .string ⟨(L.getD 4 []).toArray⟩, .bool false, .string ⟨#[]⟩] 35 (0, 0)) := by rw [heapSet (heapSet hh11)]; rfl
      have hM12 := (hM11.set (p := ⟨q, 5, none⟩) (.inr hgeq) mv).set (p := ⟨q, 6, none⟩) (.inr hgeq) (.string ⟨(L.getD 4 []).toArray⟩)
      have hO12 := ownsRow_base (base' := q + 1) (ownsRow_mod (S := [q]) hO11 (((Mod.refl [q] w11).set (p := ⟨q, 5, none⟩) (.inl (by simp)) mv).set (p := ⟨q, 6, none⟩) (.inl (by simp)) (.string ⟨(L.getD 4 []).toArray⟩)) (by simp; omega)) (by omega)
      revert hh12 hM12 hO12
      generalize (w11.setCell ⟨q, 5, none⟩ mv).setCell ⟨q, 6, none⟩ (.string ⟨(L.getD 4 []).toArray⟩) = w12
      intro hh12 hM12 hO12
      clear hh8 hh9 hh10 hh11 hM89 hM9 hM10 hM11 hM1011 hO11 x9 c9 c10 x11 c11 f3 f3' f4 f2 hf8 hf10 hO8 c8 hRM
      refine hold_stop (s' := none) ?_
      refine hold_code okT (rs := [.cell 2 35, .tmp 3]) rfl ?_
      have c12 := fun o => cellOf (o := o) hh12
      simp (maxSteps := 1000000) (disch := first | omega | (simp only [sizeAlloc, sizeDrew, sizeSet, sizePut] <;> omega) | fail) only [GS, TT_eq, TTl, Nat.reduceAdd, Nat.reduceMul, Nat.reduceSub, Nat.reduceDiv, Nat.reduceMod, Nat.reducePow, Nat.reduceEqDiff, ↓reduceIte, reduceCtorEq, Int.reduceToNat, Int.reduceAdd, Int.reduceSub, Int.reduceMul, c12, (decide_eq_true hk1), (decide_eq_false (show ¬ (j : Int) = 2 by omega)), (decide_eq_false (show ¬ (j : Int) = 3 by omega)), hbm]
      have hME : rdM j L = ⟨(j : Int), (xa, xb, xc), ((nA : Nat) : Int), mm, L.getD 4 [], false, []⟩ := by unfold rdM; rw [if_pos ⟨by omega, by omega⟩, hTx, hA, hBB]
      have osv := ownsRow_one hO12
      have hE := fun R h => rEncode12_cps ⟨(j : Int), (xa, xb, xc), ((nA : Nat) : Int), mm, L.getD 4 [], false, []⟩ j rfl (by omega) (mv) (show -9223372036854775808 ≤ ((nA : Nat) : Int) by omega) (show ((nA : Nat) : Int) ≤ 9223372036854775807 by omega) (show (L.getD 4 []).length ≤ maxLen by have := hpl 4 (by omega); unfold maxLen; omega) (show ([] : List UInt8).length ≤ maxLen by simp) (show mm.length ≤ 1000000 by omega) (show ∀ x ∈ mm, x.2.length ≤ maxLen by intro x hx; have := hd6 x hx; unfold maxLen; omega) w12 (Rd.own hO12) R h
      have hso' := hso j
      have hj' : ¬ encS j ⟨(j : Int), (xa, xb, xc), ((nA : Nat) : Int), mm, L.getD 4 [], false, []⟩ = (S, 0) → ∀ k, 1 ≤ k → k < j + 1 → wordS j = wordS k → ¬ encS k (rdM k L) = (S, 0) := fun hne k hk1 hk2 hk3 => by
        by_cases h : k = j
        · subst h; rw [hME]; exact hne
        · exact hjn k hk1 (by omega) hk3
      rw [hME] at hso'
      unfold msgV msgC stV at hE
      simp only at hE
      generalize hEE : encS j ⟨(j : Int), (xa, xb, xc), ((nA : Nat) : Int), mm, L.getD 4 [], false, []⟩ = E at *
      obtain ⟨ea, ee⟩ := E
      simp only at hE
      refine ⟨fok18, hE _ fun wZ hMZ => .inl ⟨_, rfl, hold_ops okT (rs := [.cell 2 35, .tmp 3]) rfl ?_⟩⟩
      have hhZ := hMZ.get hh12 (by simp)
      have hZZ := hMZ.get (hM12.get hZ4 (by simp)) (by simp)
      have hM4Z := hM12.trans hMZ (by simp)
      by_cases he : ee = 0
      rotate_left
      · simp (maxSteps := 1000000) (disch := first | omega | (simp only [sizeAlloc, sizeDrew, sizeSet, sizePut] <;> omega) | fail) only [GS, TT_eq, TTl, Nat.reduceAdd, Nat.reduceMul, Nat.reduceSub, Nat.reduceDiv, Nat.reduceMod, Nat.reducePow, Nat.reduceEqDiff, ↓reduceIte, reduceCtorEq, Int.reduceToNat, Int.reduceAdd, Int.reduceSub, Int.reduceMul, he]
        refine ⟨⟨j + 1, rfl, by omega, by omega, hj' (fun h => he (by simp only [Prod.mk.injEq] at h; exact h.2)), hM4Z⟩, by omega⟩
      by_cases ht : ea = S
      rotate_left
      · simp (maxSteps := 1000000) (disch := first | omega | (simp only [sizeAlloc, sizeDrew, sizeSet, sizePut] <;> omega) | fail) only [GS, TT_eq, TTl, Nat.reduceAdd, Nat.reduceMul, Nat.reduceSub, Nat.reduceDiv, Nat.reduceMod, Nat.reducePow, Nat.reduceEqDiff, ↓reduceIte, reduceCtorEq, Int.reduceToNat, Int.reduceAdd, Int.reduceSub, Int.reduceMul, he, ht]
        refine ⟨⟨j + 1, rfl, by omega, by omega, hj' (fun h => ht (by simp only [Prod.mk.injEq] at h; exact h.1)), hM4Z⟩, by omega⟩
      have cZ := fun o => cellOf (o := o) hhZ
      have xZ := fun o => frozenOf (o := o) hZZ
      have dZ := fun o => cellOf (o := o) hZZ
      subst he ht
      simp (maxSteps := 1000000) (disch := first | omega | (simp only [sizeAlloc, sizeDrew, sizeSet, sizePut] <;> omega) | fail) only [GS, TT_eq, TTl, Nat.reduceAdd, Nat.reduceMul, Nat.reduceSub, Nat.reduceDiv, Nat.reduceMod, Nat.reducePow, Nat.reduceEqDiff, ↓reduceIte, reduceCtorEq, Int.reduceToNat, Int.reduceAdd, Int.reduceSub, Int.reduceMul, cZ, xZ, dZ, eq_self, osv, cellsL_one osv]
      refine load9 (st9 hZZ) ?_
      have hOZ := ownsRow_base (ownsRow_mod (S := [n]) (ownsRow_mod hO12 hMZ (by simp)) (modSet9G (F := [n]) (p := n) (x0 := .int .u8 j) (x1 := .int .i64 xa) (x2 := .int .i64 xb) (x3 := .int .i64 xc) (x4 := .int .i64 ((nA : Nat) : Int)) (x5 := mv) (x6 := .string ⟨(L.getD 4 []).toArray⟩) (x7 := .bool false) (x8 := .string ⟨#[]⟩) (Mod.refl [n] wZ) (.inl (by simp))) (by simp; omega)) hgeB
      exact h1 ⟨(j : Int), (xa, xb, xc), ((nA : Nat) : Int), mm, L.getD 4 [], false, []⟩ (mv) _ (hso' rfl) hOZ (modSet9 (x0 := .int .u8 j) (x1 := .int .i64 xa) (x2 := .int .i64 xb) (x3 := .int .i64 xc) (x4 := .int .i64 ((nA : Nat) : Int)) (x5 := mv) (x6 := .string ⟨(L.getD 4 []).toArray⟩) (x7 := .bool false) (x8 := .string ⟨#[]⟩) (hM04.trans hM4Z (by simp)) hgeZ)
    · have c8 := fun o => cellOf (o := o) hh8
      simp (maxSteps := 1000000) (disch := first | omega | (simp only [sizeAlloc, sizeDrew, sizeSet, sizePut] <;> omega) | fail) only [GS, TT_eq, TTl, Nat.reduceAdd, Nat.reduceMul, Nat.reduceSub, Nat.reduceDiv, Nat.reduceMod, Nat.reducePow, Nat.reduceEqDiff, ↓reduceIte, reduceCtorEq, Int.reduceToNat, Int.reduceAdd, Int.reduceSub, Int.reduceMul, c8, (decide_eq_true hk1), hl5, (decide_eq_false (show ¬ (j : Int) = 2 by omega)), (decide_eq_false (show ¬ (j : Int) = 3 by omega)), hbm]
      have hME : rdM j L = ⟨(j : Int), (xa, xb, xc), 0, [], [], false, []⟩ := by unfold rdM; rw [if_neg (by omega), decide_eq_false (fun h => by have h1 := h.1; have h2 := h.2.1; omega), if_neg (by omega), hTx]
      have osv := ownsRow_one hO8
      have hE := fun R h => rEncode12_cps ⟨(j : Int), (xa, xb, xc), 0, [], [], false, []⟩ j rfl (by omega) (.slice none 0 0) (show -9223372036854775808 ≤ (0 : Int) by decide) (show (0 : Int) ≤ 9223372036854775807 by decide) (show ([] : List UInt8).length ≤ maxLen by simp) (show ([] : List UInt8).length ≤ maxLen by simp) (show ([] : List Mb).length ≤ 1000000 by simp) (show ∀ x ∈ ([] : List Mb), x.2.length ≤ maxLen by simp) w8 (Rd.own hO8) R h
      have hso' := hso j
      have hj' : ¬ encS j ⟨(j : Int), (xa, xb, xc), 0, [], [], false, []⟩ = (S, 0) → ∀ k, 1 ≤ k → k < j + 1 → wordS j = wordS k → ¬ encS k (rdM k L) = (S, 0) := fun hne k hk1 hk2 hk3 => by
        by_cases h : k = j
        · subst h; rw [hME]; exact hne
        · exact hjn k hk1 (by omega) hk3
      rw [hME] at hso'
      unfold msgV msgC stV at hE
      simp only at hE
      generalize hEE : encS j ⟨(j : Int), (xa, xb, xc), 0, [], [], false, []⟩ = E at *
      obtain ⟨ea, ee⟩ := E
      simp only at hE
      refine ⟨fok18, hE _ fun wZ hMZ => .inl ⟨_, rfl, hold_ops okT (rs := [.cell 2 35, .tmp 3]) rfl ?_⟩⟩
      have hhZ := hMZ.get hh8 (by simp)
      have hZZ := hMZ.get (hM8.get hZ4 (by simp)) (by simp)
      have hM4Z := hM8.trans hMZ (by simp)
      by_cases he : ee = 0
      rotate_left
      · simp (maxSteps := 1000000) (disch := first | omega | (simp only [sizeAlloc, sizeDrew, sizeSet, sizePut] <;> omega) | fail) only [GS, TT_eq, TTl, Nat.reduceAdd, Nat.reduceMul, Nat.reduceSub, Nat.reduceDiv, Nat.reduceMod, Nat.reducePow, Nat.reduceEqDiff, ↓reduceIte, reduceCtorEq, Int.reduceToNat, Int.reduceAdd, Int.reduceSub, Int.reduceMul, he]
        refine ⟨⟨j + 1, rfl, by omega, by omega, hj' (fun h => he (by simp only [Prod.mk.injEq] at h; exact h.2)), hM4Z⟩, by omega⟩
      by_cases ht : ea = S
      rotate_left
      · simp (maxSteps := 1000000) (disch := first | omega | (simp only [sizeAlloc, sizeDrew, sizeSet, sizePut] <;> omega) | fail) only [GS, TT_eq, TTl, Nat.reduceAdd, Nat.reduceMul, Nat.reduceSub, Nat.reduceDiv, Nat.reduceMod, Nat.reducePow, Nat.reduceEqDiff, ↓reduceIte, reduceCtorEq, Int.reduceToNat, Int.reduceAdd, Int.reduceSub, Int.reduceMul, he, ht]
        refine ⟨⟨j + 1, rfl, by omega, by omega, hj' (fun h => ht (by simp only [Prod.mk.injEq] at h; exact h.1)), hM4Z⟩, by omega⟩
      have cZ := fun o => cellOf (o := o) hhZ
      have xZ := fun o => frozenOf (o := o) hZZ
      have dZ := fun o => cellOf (o := o) hZZ
      subst he ht
      simp (maxSteps := 1000000) (disch := first | omega | (simp only [sizeAlloc, sizeDrew, sizeSet, sizePut] <;> omega) | fail) only [GS, TT_eq, TTl, Nat.reduceAdd, Nat.reduceMul, Nat.reduceSub, Nat.reduceDiv, Nat.reduceMod, Nat.reducePow, Nat.reduceEqDiff, ↓reduceIte, reduceCtorEq, Int.reduceToNat, Int.reduceAdd, Int.reduceSub, Int.reduceMul, cZ, xZ, dZ, eq_self, osv, cellsL_one osv]
      refine load9 (st9 hZZ) ?_
      have hOZ := ownsRow_base (ownsRow_mod (S := [n]) (ownsRow_mod hO8 hMZ (by simp)) (modSet9G (F := [n]) (p := n) (x0 := .int .u8 j) (x1 := .int .i64 xa) (x2 := .int .i64 xb) (x3 := .int .i64 xc) (x4 := .int .i64 0) (x5 := .slice none 0 0) (x6 := .string ⟨#[]⟩) (x7 := .bool false) (x8 := .string ⟨#[]⟩) (Mod.refl [n] wZ) (.inl (by simp))) (by simp; omega)) hgeB
      exact h1 ⟨(j : Int), (xa, xb, xc), 0, [], [], false, []⟩ (.slice none 0 0) _ (hso' rfl) hOZ (modSet9 (x0 := .int .u8 j) (x1 := .int .i64 xa) (x2 := .int .i64 xb) (x3 := .int .i64 xc) (x4 := .int .i64 0) (x5 := .slice none 0 0) (x6 := .string ⟨#[]⟩) (x7 := .bool false) (x8 := .string ⟨#[]⟩) (hM04.trans hM4Z (by simp)) hgeZ)
  by_cases hk2 : (j : Int) = 2
  · by_cases hl2 : (2 : Int) < ((L.length : Nat) : Int)
    · have c8 := fun o => cellOf (o := o) hh8
      simp (maxSteps := 1000000) (disch := first | omega | (simp only [sizeAlloc, sizeDrew, sizeSet, sizePut] <;> omega) | fail) only [GS, TT_eq, TTl, Nat.reduceAdd, Nat.reduceMul, Nat.reduceSub, Nat.reduceDiv, Nat.reduceMod, Nat.reducePow, Nat.reduceEqDiff, ↓reduceIte, reduceCtorEq, Int.reduceToNat, Int.reduceAdd, Int.reduceSub, Int.reduceMul, (decide_eq_false (show ¬ (j : Int) = 1 by omega)), (decide_eq_true hk2), hl2, c8]
      refine hold_draw okT (rs := [.cell 2 35, .tmp 3]) rfl [0, 1, 3, 0, 15, 31, 63] [0, 1, 2, 3, 4, 5, 6] (by kernel_rfl) (by kernel_rfl) ?_
      have hh9 : (w8.drewN 1).heap[q]? = _ := hh8
      have hM9 := hM8.drewN 1
      generalize w8.drewN 1 = w9 at *
      have f2 := cellM (hf4 2 (by omega)) hM9
      simp (maxSteps := 1000000) (disch := first | omega | (simp only [sizeAlloc, sizeDrew, sizeSet, sizePut] <;> omega) | fail) only [GS, TT_eq, TTl, Nat.reduceAdd, Nat.reduceMul, Nat.reduceSub, Nat.reduceDiv, Nat.reduceMod, Nat.reducePow, Nat.reduceEqDiff, ↓reduceIte, reduceCtorEq, Int.reduceToNat, Int.reduceAdd, Int.reduceSub, Int.reduceMul, f2]
      refine ⟨fok87, rnum12_cps 1 (by decide) (by decide) _ _ fun wa hMa => .inl ⟨_, rfl, ?_⟩⟩
      have hha := hMa.get hh9 (by simp)
      have hM10 := hM9.trans hMa (by simp)
      have xa' := fun o => frozenOf (o := o) hha
      have ca := fun o => cellOf (o := o) hha
      have f2' := cellM f2 hMa
      first | refine hold_stop (s' := some 18) (hold_dops okT (rs := [.cell 2 35, .tmp 3]) rfl ?_) | refine ⟨(by repeat' (first | exact f2' | exact ca _ | apply And.intro)), hold_stop (s' := some 18) (hold_dops okT (rs := [.cell 2 35, .tmp 3]) rfl ?_)⟩
      simp (maxSteps := 1000000) (disch := first | omega | (simp only [sizeAlloc, sizeDrew, sizeSet, sizePut] <;> omega) | fail) only [GS, TT_eq, TTl, Nat.reduceAdd, Nat.reduceMul, Nat.reduceSub, Nat.reduceDiv, Nat.reduceMod, Nat.reducePow, Nat.reduceEqDiff, ↓reduceIte, reduceCtorEq, Int.reduceToNat, Int.reduceAdd, Int.reduceSub, Int.reduceMul, xa', ca]
      have hh10 : (wa.setCell ⟨q, 7, none⟩ (.bool (decide (L.getD 2 [] = numE 1)))).heap[q]? = some (.cells #[.int .u8 j, .int .i64 xa, .int .i64 xb, .int .i64 xc, .int .i64 0, .slice none 0 0, .string ⟨#[]⟩, .bool (decide (L.getD 2 [] = numE 1)), .string ⟨#[]⟩] 35 (0, 0)) := by rw [heapSet hha]; rfl
      replace hM10 := hM10.set (p := ⟨q, 7, none⟩) (.inr hgeq) (.bool (decide (L.getD 2 [] = numE 1)))
      revert hh10 hM10
      generalize wa.setCell ⟨q, 7, none⟩ (.bool (decide (L.getD 2 [] = numE 1))) = w10
      intro hh10 hM10
      have hO10 : w10.ownsRow (q + 1) 126 2 (.slice none 0 0) ([] : List Mb).length (([] : List Mb).flatMap mbC) := World.ownsRow_nil _ _ _ _
      have hY : decide ((j = 2 ∨ j = 3) ∧ 2 < L.length ∧ L.getD 2 [] = numE 1) = decide (L.getD 2 [] = numE 1) := decide_eq_decide.2 ⟨fun h => h.2.2, fun h => ⟨by omega, by omega, h⟩⟩
      generalize decide (L.getD 2 [] = numE 1) = yb at *
      clear hh8 hh9 hM9 hha hMa xa' ca f2 f2' hO8 c8 hf8
      by_cases hl3 : (3 : Int) < ((L.length : Nat) : Int)
      · refine hold_stop (s' := some 20) ?_
        refine hold_code okT (rs := [.cell 2 35, .tmp 3]) rfl ?_
        have f3 := cellM (hf4 3 (by omega)) hM10
        have x10 := fun o => frozenOf (o := o) hh10
        have c10 := fun o => cellOf (o := o) hh10
        simp (maxSteps := 1000000) (disch := first | omega | (simp only [sizeAlloc, sizeDrew, sizeSet, sizePut] <;> omega) | fail) only [GS, TT_eq, TTl, Nat.reduceAdd, Nat.reduceMul, Nat.reduceSub, Nat.reduceDiv, Nat.reduceMod, Nat.reducePow, Nat.reduceEqDiff, ↓reduceIte, reduceCtorEq, Int.reduceToNat, Int.reduceAdd, Int.reduceSub, Int.reduceMul, (decide_eq_true hk2), hl3, f3, x10, c10]
        have hh11 : (w10.setCell ⟨q, 8, none⟩ (.string ⟨(L.getD 3 []).toArray⟩)).heap[q]? = some (.cells #[.int .u8 j, .int .i64 xa, .int .i64 xb, .int .i64 xc, .int .i64 0, .slice none 0 0, .string ⟨#[]⟩, .bool yb, .string ⟨(L.getD 3 []).toArray⟩] 35 (0, 0)) := by rw [heapSet hh10]; rfl
        have hM11 := hM10.set (p := ⟨q, 8, none⟩) (.inr hgeq) (.string ⟨(L.getD 3 []).toArray⟩)
        revert hh11 hM11
        generalize w10.setCell ⟨q, 8, none⟩ (.string ⟨(L.getD 3 []).toArray⟩) = w11
        intro hh11 hM11
        have hO11 : w11.ownsRow (q + 1) 126 2 (.slice none 0 0) ([] : List Mb).length (([] : List Mb).flatMap mbC) := World.ownsRow_nil _ _ _ _
        clear c10 x10 hh10 hM10 hO10 f3
        refine hold_stop (s' := none) ?_
        refine hold_code okT (rs := [.cell 2 35, .tmp 3]) rfl ?_
        have c11 := fun o => cellOf (o := o) hh11
        simp (maxSteps := 1000000) (disch := first | omega | (simp only [sizeAlloc, sizeDrew, sizeSet, sizePut] <;> omega) | fail) only [GS, TT_eq, TTl, Nat.reduceAdd, Nat.reduceMul, Nat.reduceSub, Nat.reduceDiv, Nat.reduceMod, Nat.reducePow, Nat.reduceEqDiff, ↓reduceIte, reduceCtorEq, Int.reduceToNat, Int.reduceAdd, Int.reduceSub, Int.reduceMul, c11]
        have hME : rdM j L = ⟨(j : Int), (xa, xb, xc), 0, [], [], yb, L.getD 3 []⟩ := by unfold rdM; rw [if_neg (by omega), hY, if_pos (by omega), hTx]
        have osv := ownsRow_one hO11
        have hE := fun R h => rEncode12_cps ⟨(j : Int), (xa, xb, xc), 0, [], [], yb, L.getD 3 []⟩ j rfl (by omega) (.slice none 0 0) (show -9223372036854775808 ≤ (0 : Int) by decide) (show (0 : Int) ≤ 9223372036854775807 by decide) (show ([] : List UInt8).length ≤ maxLen by simp) (show (L.getD 3 []).length ≤ maxLen by have := hpl 3 (by omega); unfold maxLen; omega) (show ([] : List Mb).length ≤ 1000000 by simp) (show ∀ x ∈ ([] : List Mb), x.2.length ≤ maxLen by simp) w11 (Rd.own hO11) R h
        have hso' := hso j
        have hj' : ¬ encS j ⟨(j : Int), (xa, xb, xc), 0, [], [], yb, L.getD 3 []⟩ = (S, 0) → ∀ k, 1 ≤ k → k < j + 1 → wordS j = wordS k → ¬ encS k (rdM k L) = (S, 0) := fun hne k hk1 hk2 hk3 => by
          by_cases h : k = j
          · subst h; rw [hME]; exact hne
          · exact hjn k hk1 (by omega) hk3
        rw [hME] at hso'
        unfold msgV msgC stV at hE
        simp only at hE
        generalize hEE : encS j ⟨(j : Int), (xa, xb, xc), 0, [], [], yb, L.getD 3 []⟩ = E at *
        obtain ⟨ea, ee⟩ := E
        simp only at hE
        refine ⟨fok18, hE _ fun wZ hMZ => .inl ⟨_, rfl, hold_ops okT (rs := [.cell 2 35, .tmp 3]) rfl ?_⟩⟩
        have hhZ := hMZ.get hh11 (by simp)
        have hZZ := hMZ.get (hM11.get hZ4 (by simp)) (by simp)
        have hM4Z := hM11.trans hMZ (by simp)
        by_cases he : ee = 0
        rotate_left
        · simp (maxSteps := 1000000) (disch := first | omega | (simp only [sizeAlloc, sizeDrew, sizeSet, sizePut] <;> omega) | fail) only [GS, TT_eq, TTl, Nat.reduceAdd, Nat.reduceMul, Nat.reduceSub, Nat.reduceDiv, Nat.reduceMod, Nat.reducePow, Nat.reduceEqDiff, ↓reduceIte, reduceCtorEq, Int.reduceToNat, Int.reduceAdd, Int.reduceSub, Int.reduceMul, he]
          refine ⟨⟨j + 1, rfl, by omega, by omega, hj' (fun h => he (by simp only [Prod.mk.injEq] at h; exact h.2)), hM4Z⟩, by omega⟩
        by_cases ht : ea = S
        rotate_left
        · simp (maxSteps := 1000000) (disch := first | omega | (simp only [sizeAlloc, sizeDrew, sizeSet, sizePut] <;> omega) | fail) only [GS, TT_eq, TTl, Nat.reduceAdd, Nat.reduceMul, Nat.reduceSub, Nat.reduceDiv, Nat.reduceMod, Nat.reducePow, Nat.reduceEqDiff, ↓reduceIte, reduceCtorEq, Int.reduceToNat, Int.reduceAdd, Int.reduceSub, Int.reduceMul, he, ht]
          refine ⟨⟨j + 1, rfl, by omega, by omega, hj' (fun h => ht (by simp only [Prod.mk.injEq] at h; exact h.1)), hM4Z⟩, by omega⟩
        have cZ := fun o => cellOf (o := o) hhZ
        have xZ := fun o => frozenOf (o := o) hZZ
        have dZ := fun o => cellOf (o := o) hZZ
        subst he ht
        simp (maxSteps := 1000000) (disch := first | omega | (simp only [sizeAlloc, sizeDrew, sizeSet, sizePut] <;> omega) | fail) only [GS, TT_eq, TTl, Nat.reduceAdd, Nat.reduceMul, Nat.reduceSub, Nat.reduceDiv, Nat.reduceMod, Nat.reducePow, Nat.reduceEqDiff, ↓reduceIte, reduceCtorEq, Int.reduceToNat, Int.reduceAdd, Int.reduceSub, Int.reduceMul, cZ, xZ, dZ, eq_self, osv, cellsL_one osv]
        refine load9 (st9 hZZ) ?_
        have hOZ := ownsRow_base (ownsRow_mod (S := [n]) (ownsRow_mod hO11 hMZ (by simp)) (modSet9G (F := [n]) (p := n) (x0 := .int .u8 j) (x1 := .int .i64 xa) (x2 := .int .i64 xb) (x3 := .int .i64 xc) (x4 := .int .i64 0) (x5 := .slice none 0 0) (x6 := .string ⟨#[]⟩) (x7 := .bool yb) (x8 := .string ⟨(L.getD 3 []).toArray⟩) (Mod.refl [n] wZ) (.inl (by simp))) (by simp; omega)) hgeB
        exact h1 ⟨(j : Int), (xa, xb, xc), 0, [], [], yb, L.getD 3 []⟩ (.slice none 0 0) _ (hso' rfl) hOZ (modSet9 (x0 := .int .u8 j) (x1 := .int .i64 xa) (x2 := .int .i64 xb) (x3 := .int .i64 xc) (x4 := .int .i64 0) (x5 := .slice none 0 0) (x6 := .string ⟨#[]⟩) (x7 := .bool yb) (x8 := .string ⟨(L.getD 3 []).toArray⟩) (hM04.trans hM4Z (by simp)) hgeZ)
      · refine hold_stop (s' := none) ?_
        refine hold_code okT (rs := [.cell 2 35, .tmp 3]) rfl ?_
        have c10 := fun o => cellOf (o := o) hh10
        simp (maxSteps := 1000000) (disch := first | omega | (simp only [sizeAlloc, sizeDrew, sizeSet, sizePut] <;> omega) | fail) only [GS, TT_eq, TTl, Nat.reduceAdd, Nat.reduceMul, Nat.reduceSub, Nat.reduceDiv, Nat.reduceMod, Nat.reducePow, Nat.reduceEqDiff, ↓reduceIte, reduceCtorEq, Int.reduceToNat, Int.reduceAdd, Int.reduceSub, Int.reduceMul, c10, (decide_eq_true hk2), hl3]
        have hME : rdM j L = ⟨(j : Int), (xa, xb, xc), 0, [], [], yb, []⟩ := by unfold rdM; rw [if_neg (by omega), hY, if_neg (by omega), hTx]
        have osv := ownsRow_one hO10
        have hE := fun R h => rEncode12_cps ⟨(j : Int), (xa, xb, xc), 0, [], [], yb, []⟩ j rfl (by omega) (.slice none 0 0) (show -9223372036854775808 ≤ (0 : Int) by decide) (show (0 : Int) ≤ 9223372036854775807 by decide) (show ([] : List UInt8).length ≤ maxLen by simp) (show ([] : List UInt8).length ≤ maxLen by simp) (show ([] : List Mb).length ≤ 1000000 by simp) (show ∀ x ∈ ([] : List Mb), x.2.length ≤ maxLen by simp) w10 (Rd.own hO10) R h
        have hso' := hso j
        have hj' : ¬ encS j ⟨(j : Int), (xa, xb, xc), 0, [], [], yb, []⟩ = (S, 0) → ∀ k, 1 ≤ k → k < j + 1 → wordS j = wordS k → ¬ encS k (rdM k L) = (S, 0) := fun hne k hk1 hk2 hk3 => by
          by_cases h : k = j
          · subst h; rw [hME]; exact hne
          · exact hjn k hk1 (by omega) hk3
        rw [hME] at hso'
        unfold msgV msgC stV at hE
        simp only at hE
        generalize hEE : encS j ⟨(j : Int), (xa, xb, xc), 0, [], [], yb, []⟩ = E at *
        obtain ⟨ea, ee⟩ := E
        simp only at hE
        refine ⟨fok18, hE _ fun wZ hMZ => .inl ⟨_, rfl, hold_ops okT (rs := [.cell 2 35, .tmp 3]) rfl ?_⟩⟩
        have hhZ := hMZ.get hh10 (by simp)
        have hZZ := hMZ.get (hM10.get hZ4 (by simp)) (by simp)
        have hM4Z := hM10.trans hMZ (by simp)
        by_cases he : ee = 0
        rotate_left
        · simp (maxSteps := 1000000) (disch := first | omega | (simp only [sizeAlloc, sizeDrew, sizeSet, sizePut] <;> omega) | fail) only [GS, TT_eq, TTl, Nat.reduceAdd, Nat.reduceMul, Nat.reduceSub, Nat.reduceDiv, Nat.reduceMod, Nat.reducePow, Nat.reduceEqDiff, ↓reduceIte, reduceCtorEq, Int.reduceToNat, Int.reduceAdd, Int.reduceSub, Int.reduceMul, he]
          refine ⟨⟨j + 1, rfl, by omega, by omega, hj' (fun h => he (by simp only [Prod.mk.injEq] at h; exact h.2)), hM4Z⟩, by omega⟩
        by_cases ht : ea = S
        rotate_left
        · simp (maxSteps := 1000000) (disch := first | omega | (simp only [sizeAlloc, sizeDrew, sizeSet, sizePut] <;> omega) | fail) only [GS, TT_eq, TTl, Nat.reduceAdd, Nat.reduceMul, Nat.reduceSub, Nat.reduceDiv, Nat.reduceMod, Nat.reducePow, Nat.reduceEqDiff, ↓reduceIte, reduceCtorEq, Int.reduceToNat, Int.reduceAdd, Int.reduceSub, Int.reduceMul, he, ht]
          refine ⟨⟨j + 1, rfl, by omega, by omega, hj' (fun h => ht (by simp only [Prod.mk.injEq] at h; exact h.1)), hM4Z⟩, by omega⟩
        have cZ := fun o => cellOf (o := o) hhZ
        have xZ := fun o => frozenOf (o := o) hZZ
        have dZ := fun o => cellOf (o := o) hZZ
        subst he ht
        simp (maxSteps := 1000000) (disch := first | omega | (simp only [sizeAlloc, sizeDrew, sizeSet, sizePut] <;> omega) | fail) only [GS, TT_eq, TTl, Nat.reduceAdd, Nat.reduceMul, Nat.reduceSub, Nat.reduceDiv, Nat.reduceMod, Nat.reducePow, Nat.reduceEqDiff, ↓reduceIte, reduceCtorEq, Int.reduceToNat, Int.reduceAdd, Int.reduceSub, Int.reduceMul, cZ, xZ, dZ, eq_self, osv, cellsL_one osv]
        refine load9 (st9 hZZ) ?_
        have hOZ := ownsRow_base (ownsRow_mod (S := [n]) (ownsRow_mod hO10 hMZ (by simp)) (modSet9G (F := [n]) (p := n) (x0 := .int .u8 j) (x1 := .int .i64 xa) (x2 := .int .i64 xb) (x3 := .int .i64 xc) (x4 := .int .i64 0) (x5 := .slice none 0 0) (x6 := .string ⟨#[]⟩) (x7 := .bool yb) (x8 := .string ⟨#[]⟩) (Mod.refl [n] wZ) (.inl (by simp))) (by simp; omega)) hgeB
        exact h1 ⟨(j : Int), (xa, xb, xc), 0, [], [], yb, []⟩ (.slice none 0 0) _ (hso' rfl) hOZ (modSet9 (x0 := .int .u8 j) (x1 := .int .i64 xa) (x2 := .int .i64 xb) (x3 := .int .i64 xc) (x4 := .int .i64 0) (x5 := .slice none 0 0) (x6 := .string ⟨#[]⟩) (x7 := .bool yb) (x8 := .string ⟨#[]⟩) (hM04.trans hM4Z (by simp)) hgeZ)
    · have hl3 : ¬ (3 : Int) < ((L.length : Nat) : Int) := by omega
      have c8 := fun o => cellOf (o := o) hh8
      simp (maxSteps := 1000000) (disch := first | omega | (simp only [sizeAlloc, sizeDrew, sizeSet, sizePut] <;> omega) | fail) only [GS, TT_eq, TTl, Nat.reduceAdd, Nat.reduceMul, Nat.reduceSub, Nat.reduceDiv, Nat.reduceMod, Nat.reducePow, Nat.reduceEqDiff, ↓reduceIte, reduceCtorEq, Int.reduceToNat, Int.reduceAdd, Int.reduceSub, Int.reduceMul, c8, (decide_eq_false hk1), (decide_eq_true hk2), hl2, hl3, hbm]
      have hME : rdM j L = ⟨(j : Int), (xa, xb, xc), 0, [], [], false, []⟩ := by unfold rdM; rw [if_neg (by omega), decide_eq_false (fun h => by have h1 := h.1; have h2 := h.2.1; omega), if_neg (by omega), hTx]
      have osv := ownsRow_one hO8
      have hE := fun R h => rEncode12_cps ⟨(j : Int), (xa, xb, xc), 0, [], [], false, []⟩ j rfl (by omega) (.slice none 0 0) (show -9223372036854775808 ≤ (0 : Int) by decide) (show (0 : Int) ≤ 9223372036854775807 by decide) (show ([] : List UInt8).length ≤ maxLen by simp) (show ([] : List UInt8).length ≤ maxLen by simp) (show ([] : List Mb).length ≤ 1000000 by simp) (show ∀ x ∈ ([] : List Mb), x.2.length ≤ maxLen by simp) w8 (Rd.own hO8) R h
      have hso' := hso j
      have hj' : ¬ encS j ⟨(j : Int), (xa, xb, xc), 0, [], [], false, []⟩ = (S, 0) → ∀ k, 1 ≤ k → k < j + 1 → wordS j = wordS k → ¬ encS k (rdM k L) = (S, 0) := fun hne k hk1 hk2 hk3 => by
        by_cases h : k = j
        · subst h; rw [hME]; exact hne
        · exact hjn k hk1 (by omega) hk3
      rw [hME] at hso'
      unfold msgV msgC stV at hE
      simp only at hE
      generalize hEE : encS j ⟨(j : Int), (xa, xb, xc), 0, [], [], false, []⟩ = E at *
      obtain ⟨ea, ee⟩ := E
      simp only at hE
      refine ⟨fok18, hE _ fun wZ hMZ => .inl ⟨_, rfl, hold_ops okT (rs := [.cell 2 35, .tmp 3]) rfl ?_⟩⟩
      have hhZ := hMZ.get hh8 (by simp)
      have hZZ := hMZ.get (hM8.get hZ4 (by simp)) (by simp)
      have hM4Z := hM8.trans hMZ (by simp)
      by_cases he : ee = 0
      rotate_left
      · simp (maxSteps := 1000000) (disch := first | omega | (simp only [sizeAlloc, sizeDrew, sizeSet, sizePut] <;> omega) | fail) only [GS, TT_eq, TTl, Nat.reduceAdd, Nat.reduceMul, Nat.reduceSub, Nat.reduceDiv, Nat.reduceMod, Nat.reducePow, Nat.reduceEqDiff, ↓reduceIte, reduceCtorEq, Int.reduceToNat, Int.reduceAdd, Int.reduceSub, Int.reduceMul, he]
        refine ⟨⟨j + 1, rfl, by omega, by omega, hj' (fun h => he (by simp only [Prod.mk.injEq] at h; exact h.2)), hM4Z⟩, by omega⟩
      by_cases ht : ea = S
      rotate_left
      · simp (maxSteps := 1000000) (disch := first | omega | (simp only [sizeAlloc, sizeDrew, sizeSet, sizePut] <;> omega) | fail) only [GS, TT_eq, TTl, Nat.reduceAdd, Nat.reduceMul, Nat.reduceSub, Nat.reduceDiv, Nat.reduceMod, Nat.reducePow, Nat.reduceEqDiff, ↓reduceIte, reduceCtorEq, Int.reduceToNat, Int.reduceAdd, Int.reduceSub, Int.reduceMul, he, ht]
        refine ⟨⟨j + 1, rfl, by omega, by omega, hj' (fun h => ht (by simp only [Prod.mk.injEq] at h; exact h.1)), hM4Z⟩, by omega⟩
      have cZ := fun o => cellOf (o := o) hhZ
      have xZ := fun o => frozenOf (o := o) hZZ
      have dZ := fun o => cellOf (o := o) hZZ
      subst he ht
      simp (maxSteps := 1000000) (disch := first | omega | (simp only [sizeAlloc, sizeDrew, sizeSet, sizePut] <;> omega) | fail) only [GS, TT_eq, TTl, Nat.reduceAdd, Nat.reduceMul, Nat.reduceSub, Nat.reduceDiv, Nat.reduceMod, Nat.reducePow, Nat.reduceEqDiff, ↓reduceIte, reduceCtorEq, Int.reduceToNat, Int.reduceAdd, Int.reduceSub, Int.reduceMul, cZ, xZ, dZ, eq_self, osv, cellsL_one osv]
      refine load9 (st9 hZZ) ?_
      have hOZ := ownsRow_base (ownsRow_mod (S := [n]) (ownsRow_mod hO8 hMZ (by simp)) (modSet9G (F := [n]) (p := n) (x0 := .int .u8 j) (x1 := .int .i64 xa) (x2 := .int .i64 xb) (x3 := .int .i64 xc) (x4 := .int .i64 0) (x5 := .slice none 0 0) (x6 := .string ⟨#[]⟩) (x7 := .bool false) (x8 := .string ⟨#[]⟩) (Mod.refl [n] wZ) (.inl (by simp))) (by simp; omega)) hgeB
      exact h1 ⟨(j : Int), (xa, xb, xc), 0, [], [], false, []⟩ (.slice none 0 0) _ (hso' rfl) hOZ (modSet9 (x0 := .int .u8 j) (x1 := .int .i64 xa) (x2 := .int .i64 xb) (x3 := .int .i64 xc) (x4 := .int .i64 0) (x5 := .slice none 0 0) (x6 := .string ⟨#[]⟩) (x7 := .bool false) (x8 := .string ⟨#[]⟩) (hM04.trans hM4Z (by simp)) hgeZ)
  by_cases hk3 : (j : Int) = 3
  · by_cases hl2 : (2 : Int) < ((L.length : Nat) : Int)
    · have c8 := fun o => cellOf (o := o) hh8
      simp (maxSteps := 1000000) (disch := first | omega | (simp only [sizeAlloc, sizeDrew, sizeSet, sizePut] <;> omega) | fail) only [GS, TT_eq, TTl, Nat.reduceAdd, Nat.reduceMul, Nat.reduceSub, Nat.reduceDiv, Nat.reduceMod, Nat.reducePow, Nat.reduceEqDiff, ↓reduceIte, reduceCtorEq, Int.reduceToNat, Int.reduceAdd, Int.reduceSub, Int.reduceMul, (decide_eq_false (show ¬ (j : Int) = 1 by omega)), (decide_eq_false (show ¬ (j : Int) = 2 by omega)), (decide_eq_true hk3), hl2, c8]
      refine hold_draw okT (rs := [.cell 2 35, .tmp 3]) rfl [0, 1, 3, 0, 15, 31, 63] [0, 1, 2, 3, 4, 5, 6] (by kernel_rfl) (by kernel_rfl) ?_
      have hh9 : (w8.drewN 1).heap[q]? = _ := hh8
      have hM9 := hM8.drewN 1
      generalize w8.drewN 1 = w9 at *
      have f2 := cellM (hf4 2 (by omega)) hM9
      simp (maxSteps := 1000000) (disch := first | omega | (simp only [sizeAlloc, sizeDrew, sizeSet, sizePut] <;> omega) | fail) only [GS, TT_eq, TTl, Nat.reduceAdd, Nat.reduceMul, Nat.reduceSub, Nat.reduceDiv, Nat.reduceMod, Nat.reducePow, Nat.reduceEqDiff, ↓reduceIte, reduceCtorEq, Int.reduceToNat, Int.reduceAdd, Int.reduceSub, Int.reduceMul, f2]
      refine ⟨fok87, rnum12_cps 1 (by decide) (by decide) _ _ fun wa hMa => .inl ⟨_, rfl, ?_⟩⟩
      have hha := hMa.get hh9 (by simp)
      have hM10 := hM9.trans hMa (by simp)
      have xa' := fun o => frozenOf (o := o) hha
      have ca := fun o => cellOf (o := o) hha
      have f2' := cellM f2 hMa
      first | refine hold_stop (s' := some 18) (hold_dops okT (rs := [.cell 2 35, .tmp 3]) rfl ?_) | refine ⟨(by repeat' (first | exact f2' | exact ca _ | apply And.intro)), hold_stop (s' := some 18) (hold_dops okT (rs := [.cell 2 35, .tmp 3]) rfl ?_)⟩
      simp (maxSteps := 1000000) (disch := first | omega | (simp only [sizeAlloc, sizeDrew, sizeSet, sizePut] <;> omega) | fail) only [GS, TT_eq, TTl, Nat.reduceAdd, Nat.reduceMul, Nat.reduceSub, Nat.reduceDiv, Nat.reduceMod, Nat.reducePow, Nat.reduceEqDiff, ↓reduceIte, reduceCtorEq, Int.reduceToNat, Int.reduceAdd, Int.reduceSub, Int.reduceMul, xa', ca]
      have hh10 : (wa.setCell ⟨q, 7, none⟩ (.bool (decide (L.getD 2 [] = numE 1)))).heap[q]? = some (.cells #[.int .u8 j, .int .i64 xa, .int .i64 xb, .int .i64 xc, .int .i64 0, .slice none 0 0, .string ⟨#[]⟩, .bool (decide (L.getD 2 [] = numE 1)), .string ⟨#[]⟩] 35 (0, 0)) := by rw [heapSet hha]; rfl
      replace hM10 := hM10.set (p := ⟨q, 7, none⟩) (.inr hgeq) (.bool (decide (L.getD 2 [] = numE 1)))
      revert hh10 hM10
      generalize wa.setCell ⟨q, 7, none⟩ (.bool (decide (L.getD 2 [] = numE 1))) = w10
      intro hh10 hM10
      have hO10 : w10.ownsRow (q + 1) 126 2 (.slice none 0 0) ([] : List Mb).length (([] : List Mb).flatMap mbC) := World.ownsRow_nil _ _ _ _
      have hY : decide ((j = 2 ∨ j = 3) ∧ 2 < L.length ∧ L.getD 2 [] = numE 1) = decide (L.getD 2 [] = numE 1) := decide_eq_decide.2 ⟨fun h => h.2.2, fun h => ⟨by omega, by omega, h⟩⟩
      generalize decide (L.getD 2 [] = numE 1) = yb at *
      clear hh8 hh9 hM9 hha hMa xa' ca f2 f2' hO8 c8 hf8
      refine hold_stop (s' := none) ?_
      refine hold_code okT (rs := [.cell 2 35, .tmp 3]) rfl ?_
      have c10 := fun o => cellOf (o := o) hh10
      simp (maxSteps := 1000000) (disch := first | omega | (simp only [sizeAlloc, sizeDrew, sizeSet, sizePut] <;> omega) | fail) only [GS, TT_eq, TTl, Nat.reduceAdd, Nat.reduceMul, Nat.reduceSub, Nat.reduceDiv, Nat.reduceMod, Nat.reducePow, Nat.reduceEqDiff, ↓reduceIte, reduceCtorEq, Int.reduceToNat, Int.reduceAdd, Int.reduceSub, Int.reduceMul, c10, (decide_eq_false (show ¬ (j : Int) = 2 by omega)), hbm]
      have hME : rdM j L = ⟨(j : Int), (xa, xb, xc), 0, [], [], yb, []⟩ := by unfold rdM; rw [if_neg (by omega), hY, if_neg (by omega), hTx]
      have osv := ownsRow_one hO10
      have hE := fun R h => rEncode12_cps ⟨(j : Int), (xa, xb, xc), 0, [], [], yb, []⟩ j rfl (by omega) (.slice none 0 0) (show -9223372036854775808 ≤ (0 : Int) by decide) (show (0 : Int) ≤ 9223372036854775807 by decide) (show ([] : List UInt8).length ≤ maxLen by simp) (show ([] : List UInt8).length ≤ maxLen by simp) (show ([] : List Mb).length ≤ 1000000 by simp) (show ∀ x ∈ ([] : List Mb), x.2.length ≤ maxLen by simp) w10 (Rd.own hO10) R h
      have hso' := hso j
      have hj' : ¬ encS j ⟨(j : Int), (xa, xb, xc), 0, [], [], yb, []⟩ = (S, 0) → ∀ k, 1 ≤ k → k < j + 1 → wordS j = wordS k → ¬ encS k (rdM k L) = (S, 0) := fun hne k hk1 hk2 hk3 => by
        by_cases h : k = j
        · subst h; rw [hME]; exact hne
        · exact hjn k hk1 (by omega) hk3
      rw [hME] at hso'
      unfold msgV msgC stV at hE
      simp only at hE
      generalize hEE : encS j ⟨(j : Int), (xa, xb, xc), 0, [], [], yb, []⟩ = E at *
      obtain ⟨ea, ee⟩ := E
      simp only at hE
      refine ⟨fok18, hE _ fun wZ hMZ => .inl ⟨_, rfl, hold_ops okT (rs := [.cell 2 35, .tmp 3]) rfl ?_⟩⟩
      have hhZ := hMZ.get hh10 (by simp)
      have hZZ := hMZ.get (hM10.get hZ4 (by simp)) (by simp)
      have hM4Z := hM10.trans hMZ (by simp)
      by_cases he : ee = 0
      rotate_left
      · simp (maxSteps := 1000000) (disch := first | omega | (simp only [sizeAlloc, sizeDrew, sizeSet, sizePut] <;> omega) | fail) only [GS, TT_eq, TTl, Nat.reduceAdd, Nat.reduceMul, Nat.reduceSub, Nat.reduceDiv, Nat.reduceMod, Nat.reducePow, Nat.reduceEqDiff, ↓reduceIte, reduceCtorEq, Int.reduceToNat, Int.reduceAdd, Int.reduceSub, Int.reduceMul, he]
        refine ⟨⟨j + 1, rfl, by omega, by omega, hj' (fun h => he (by simp only [Prod.mk.injEq] at h; exact h.2)), hM4Z⟩, by omega⟩
      by_cases ht : ea = S
      rotate_left
      · simp (maxSteps := 1000000) (disch := first | omega | (simp only [sizeAlloc, sizeDrew, sizeSet, sizePut] <;> omega) | fail) only [GS, TT_eq, TTl, Nat.reduceAdd, Nat.reduceMul, Nat.reduceSub, Nat.reduceDiv, Nat.reduceMod, Nat.reducePow, Nat.reduceEqDiff, ↓reduceIte, reduceCtorEq, Int.reduceToNat, Int.reduceAdd, Int.reduceSub, Int.reduceMul, he, ht]
        refine ⟨⟨j + 1, rfl, by omega, by omega, hj' (fun h => ht (by simp only [Prod.mk.injEq] at h; exact h.1)), hM4Z⟩, by omega⟩
      have cZ := fun o => cellOf (o := o) hhZ
      have xZ := fun o => frozenOf (o := o) hZZ
      have dZ := fun o => cellOf (o := o) hZZ
      subst he ht
      simp (maxSteps := 1000000) (disch := first | omega | (simp only [sizeAlloc, sizeDrew, sizeSet, sizePut] <;> omega) | fail) only [GS, TT_eq, TTl, Nat.reduceAdd, Nat.reduceMul, Nat.reduceSub, Nat.reduceDiv, Nat.reduceMod, Nat.reducePow, Nat.reduceEqDiff, ↓reduceIte, reduceCtorEq, Int.reduceToNat, Int.reduceAdd, Int.reduceSub, Int.reduceMul, cZ, xZ, dZ, eq_self, osv, cellsL_one osv]
      refine load9 (st9 hZZ) ?_
      have hOZ := ownsRow_base (ownsRow_mod (S := [n]) (ownsRow_mod hO10 hMZ (by simp)) (modSet9G (F := [n]) (p := n) (x0 := .int .u8 j) (x1 := .int .i64 xa) (x2 := .int .i64 xb) (x3 := .int .i64 xc) (x4 := .int .i64 0) (x5 := .slice none 0 0) (x6 := .string ⟨#[]⟩) (x7 := .bool yb) (x8 := .string ⟨#[]⟩) (Mod.refl [n] wZ) (.inl (by simp))) (by simp; omega)) hgeB
      exact h1 ⟨(j : Int), (xa, xb, xc), 0, [], [], yb, []⟩ (.slice none 0 0) _ (hso' rfl) hOZ (modSet9 (x0 := .int .u8 j) (x1 := .int .i64 xa) (x2 := .int .i64 xb) (x3 := .int .i64 xc) (x4 := .int .i64 0) (x5 := .slice none 0 0) (x6 := .string ⟨#[]⟩) (x7 := .bool yb) (x8 := .string ⟨#[]⟩) (hM04.trans hM4Z (by simp)) hgeZ)
    · have c8 := fun o => cellOf (o := o) hh8
      simp (maxSteps := 1000000) (disch := first | omega | (simp only [sizeAlloc, sizeDrew, sizeSet, sizePut] <;> omega) | fail) only [GS, TT_eq, TTl, Nat.reduceAdd, Nat.reduceMul, Nat.reduceSub, Nat.reduceDiv, Nat.reduceMod, Nat.reducePow, Nat.reduceEqDiff, ↓reduceIte, reduceCtorEq, Int.reduceToNat, Int.reduceAdd, Int.reduceSub, Int.reduceMul, c8, (decide_eq_false hk1), (decide_eq_false hk2), (decide_eq_true hk3), hl2, hbm]
      have hME : rdM j L = ⟨(j : Int), (xa, xb, xc), 0, [], [], false, []⟩ := by unfold rdM; rw [if_neg (by omega), decide_eq_false (fun h => by have h1 := h.1; have h2 := h.2.1; omega), if_neg (by omega), hTx]
      have osv := ownsRow_one hO8
      have hE := fun R h => rEncode12_cps ⟨(j : Int), (xa, xb, xc), 0, [], [], false, []⟩ j rfl (by omega) (.slice none 0 0) (show -9223372036854775808 ≤ (0 : Int) by decide) (show (0 : Int) ≤ 9223372036854775807 by decide) (show ([] : List UInt8).length ≤ maxLen by simp) (show ([] : List UInt8).length ≤ maxLen by simp) (show ([] : List Mb).length ≤ 1000000 by simp) (show ∀ x ∈ ([] : List Mb), x.2.length ≤ maxLen by simp) w8 (Rd.own hO8) R h
      have hso' := hso j
      have hj' : ¬ encS j ⟨(j : Int), (xa, xb, xc), 0, [], [], false, []⟩ = (S, 0) → ∀ k, 1 ≤ k → k < j + 1 → wordS j = wordS k → ¬ encS k (rdM k L) = (S, 0) := fun hne k hk1 hk2 hk3 => by
        by_cases h : k = j
        · subst h; rw [hME]; exact hne
        · exact hjn k hk1 (by omega) hk3
      rw [hME] at hso'
      unfold msgV msgC stV at hE
      simp only at hE
      generalize hEE : encS j ⟨(j : Int), (xa, xb, xc), 0, [], [], false, []⟩ = E at *
      obtain ⟨ea, ee⟩ := E
      simp only at hE
      refine ⟨fok18, hE _ fun wZ hMZ => .inl ⟨_, rfl, hold_ops okT (rs := [.cell 2 35, .tmp 3]) rfl ?_⟩⟩
      have hhZ := hMZ.get hh8 (by simp)
      have hZZ := hMZ.get (hM8.get hZ4 (by simp)) (by simp)
      have hM4Z := hM8.trans hMZ (by simp)
      by_cases he : ee = 0
      rotate_left
      · simp (maxSteps := 1000000) (disch := first | omega | (simp only [sizeAlloc, sizeDrew, sizeSet, sizePut] <;> omega) | fail) only [GS, TT_eq, TTl, Nat.reduceAdd, Nat.reduceMul, Nat.reduceSub, Nat.reduceDiv, Nat.reduceMod, Nat.reducePow, Nat.reduceEqDiff, ↓reduceIte, reduceCtorEq, Int.reduceToNat, Int.reduceAdd, Int.reduceSub, Int.reduceMul, he]
        refine ⟨⟨j + 1, rfl, by omega, by omega, hj' (fun h => he (by simp only [Prod.mk.injEq] at h; exact h.2)), hM4Z⟩, by omega⟩
      by_cases ht : ea = S
      rotate_left
      · simp (maxSteps := 1000000) (disch := first | omega | (simp only [sizeAlloc, sizeDrew, sizeSet, sizePut] <;> omega) | fail) only [GS, TT_eq, TTl, Nat.reduceAdd, Nat.reduceMul, Nat.reduceSub, Nat.reduceDiv, Nat.reduceMod, Nat.reducePow, Nat.reduceEqDiff, ↓reduceIte, reduceCtorEq, Int.reduceToNat, Int.reduceAdd, Int.reduceSub, Int.reduceMul, he, ht]
        refine ⟨⟨j + 1, rfl, by omega, by omega, hj' (fun h => ht (by simp only [Prod.mk.injEq] at h; exact h.1)), hM4Z⟩, by omega⟩
      have cZ := fun o => cellOf (o := o) hhZ
      have xZ := fun o => frozenOf (o := o) hZZ
      have dZ := fun o => cellOf (o := o) hZZ
      subst he ht
      simp (maxSteps := 1000000) (disch := first | omega | (simp only [sizeAlloc, sizeDrew, sizeSet, sizePut] <;> omega) | fail) only [GS, TT_eq, TTl, Nat.reduceAdd, Nat.reduceMul, Nat.reduceSub, Nat.reduceDiv, Nat.reduceMod, Nat.reducePow, Nat.reduceEqDiff, ↓reduceIte, reduceCtorEq, Int.reduceToNat, Int.reduceAdd, Int.reduceSub, Int.reduceMul, cZ, xZ, dZ, eq_self, osv, cellsL_one osv]
      refine load9 (st9 hZZ) ?_
      have hOZ := ownsRow_base (ownsRow_mod (S := [n]) (ownsRow_mod hO8 hMZ (by simp)) (modSet9G (F := [n]) (p := n) (x0 := .int .u8 j) (x1 := .int .i64 xa) (x2 := .int .i64 xb) (x3 := .int .i64 xc) (x4 := .int .i64 0) (x5 := .slice none 0 0) (x6 := .string ⟨#[]⟩) (x7 := .bool false) (x8 := .string ⟨#[]⟩) (Mod.refl [n] wZ) (.inl (by simp))) (by simp; omega)) hgeB
      exact h1 ⟨(j : Int), (xa, xb, xc), 0, [], [], false, []⟩ (.slice none 0 0) _ (hso' rfl) hOZ (modSet9 (x0 := .int .u8 j) (x1 := .int .i64 xa) (x2 := .int .i64 xb) (x3 := .int .i64 xc) (x4 := .int .i64 0) (x5 := .slice none 0 0) (x6 := .string ⟨#[]⟩) (x7 := .bool false) (x8 := .string ⟨#[]⟩) (hM04.trans hM4Z (by simp)) hgeZ)
  have c8 := fun o => cellOf (o := o) hh8
  simp (maxSteps := 1000000) (disch := first | omega | (simp only [sizeAlloc, sizeDrew, sizeSet, sizePut] <;> omega) | fail) only [GS, TT_eq, TTl, Nat.reduceAdd, Nat.reduceMul, Nat.reduceSub, Nat.reduceDiv, Nat.reduceMod, Nat.reducePow, Nat.reduceEqDiff, ↓reduceIte, reduceCtorEq, Int.reduceToNat, Int.reduceAdd, Int.reduceSub, Int.reduceMul, c8, (decide_eq_false hk1), (decide_eq_false hk2), (decide_eq_false hk3), hbm]
  have hME : rdM j L = ⟨(j : Int), (xa, xb, xc), 0, [], [], false, []⟩ := by unfold rdM; rw [if_neg (by omega), decide_eq_false (fun h => by have h1 := h.1; have h2 := h.2.1; omega), if_neg (by omega), hTx]
  have osv := ownsRow_one hO8
  have hE := fun R h => rEncode12_cps ⟨(j : Int), (xa, xb, xc), 0, [], [], false, []⟩ j rfl (by omega) (.slice none 0 0) (show -9223372036854775808 ≤ (0 : Int) by decide) (show (0 : Int) ≤ 9223372036854775807 by decide) (show ([] : List UInt8).length ≤ maxLen by simp) (show ([] : List UInt8).length ≤ maxLen by simp) (show ([] : List Mb).length ≤ 1000000 by simp) (show ∀ x ∈ ([] : List Mb), x.2.length ≤ maxLen by simp) w8 (Rd.own hO8) R h
  have hso' := hso j
  have hj' : ¬ encS j ⟨(j : Int), (xa, xb, xc), 0, [], [], false, []⟩ = (S, 0) → ∀ k, 1 ≤ k → k < j + 1 → wordS j = wordS k → ¬ encS k (rdM k L) = (S, 0) := fun hne k hk1 hk2 hk3 => by
    by_cases h : k = j
    · subst h; rw [hME]; exact hne
    · exact hjn k hk1 (by omega) hk3
  rw [hME] at hso'
  unfold msgV msgC stV at hE
  simp only at hE
  generalize hEE : encS j ⟨(j : Int), (xa, xb, xc), 0, [], [], false, []⟩ = E at *
  obtain ⟨ea, ee⟩ := E
  simp only at hE
  refine ⟨fok18, hE _ fun wZ hMZ => .inl ⟨_, rfl, hold_ops okT (rs := [.cell 2 35, .tmp 3]) rfl ?_⟩⟩
  have hhZ := hMZ.get hh8 (by simp)
  have hZZ := hMZ.get (hM8.get hZ4 (by simp)) (by simp)
  have hM4Z := hM8.trans hMZ (by simp)
  by_cases he : ee = 0
  rotate_left
  · simp (maxSteps := 1000000) (disch := first | omega | (simp only [sizeAlloc, sizeDrew, sizeSet, sizePut] <;> omega) | fail) only [GS, TT_eq, TTl, Nat.reduceAdd, Nat.reduceMul, Nat.reduceSub, Nat.reduceDiv, Nat.reduceMod, Nat.reducePow, Nat.reduceEqDiff, ↓reduceIte, reduceCtorEq, Int.reduceToNat, Int.reduceAdd, Int.reduceSub, Int.reduceMul, he]
    refine ⟨⟨j + 1, rfl, by omega, by omega, hj' (fun h => he (by simp only [Prod.mk.injEq] at h; exact h.2)), hM4Z⟩, by omega⟩
  by_cases ht : ea = S
  rotate_left
  · simp (maxSteps := 1000000) (disch := first | omega | (simp only [sizeAlloc, sizeDrew, sizeSet, sizePut] <;> omega) | fail) only [GS, TT_eq, TTl, Nat.reduceAdd, Nat.reduceMul, Nat.reduceSub, Nat.reduceDiv, Nat.reduceMod, Nat.reducePow, Nat.reduceEqDiff, ↓reduceIte, reduceCtorEq, Int.reduceToNat, Int.reduceAdd, Int.reduceSub, Int.reduceMul, he, ht]
    refine ⟨⟨j + 1, rfl, by omega, by omega, hj' (fun h => ht (by simp only [Prod.mk.injEq] at h; exact h.1)), hM4Z⟩, by omega⟩
  have cZ := fun o => cellOf (o := o) hhZ
  have xZ := fun o => frozenOf (o := o) hZZ
  have dZ := fun o => cellOf (o := o) hZZ
  subst he ht
  simp (maxSteps := 1000000) (disch := first | omega | (simp only [sizeAlloc, sizeDrew, sizeSet, sizePut] <;> omega) | fail) only [GS, TT_eq, TTl, Nat.reduceAdd, Nat.reduceMul, Nat.reduceSub, Nat.reduceDiv, Nat.reduceMod, Nat.reducePow, Nat.reduceEqDiff, ↓reduceIte, reduceCtorEq, Int.reduceToNat, Int.reduceAdd, Int.reduceSub, Int.reduceMul, cZ, xZ, dZ, eq_self, osv, cellsL_one osv]
  refine load9 (st9 hZZ) ?_
  have hOZ := ownsRow_base (ownsRow_mod (S := [n]) (ownsRow_mod hO8 hMZ (by simp)) (modSet9G (F := [n]) (p := n) (x0 := .int .u8 j) (x1 := .int .i64 xa) (x2 := .int .i64 xb) (x3 := .int .i64 xc) (x4 := .int .i64 0) (x5 := .slice none 0 0) (x6 := .string ⟨#[]⟩) (x7 := .bool false) (x8 := .string ⟨#[]⟩) (Mod.refl [n] wZ) (.inl (by simp))) (by simp; omega)) hgeB
  exact h1 ⟨(j : Int), (xa, xb, xc), 0, [], [], false, []⟩ (.slice none 0 0) _ (hso' rfl) hOZ (modSet9 (x0 := .int .u8 j) (x1 := .int .i64 xa) (x2 := .int .i64 xb) (x3 := .int .i64 xc) (x4 := .int .i64 0) (x5 := .slice none 0 0) (x6 := .string ⟨#[]⟩) (x7 := .bool false) (x8 := .string ⟨#[]⟩) (hM04.trans hM4Z (by simp)) hgeZ)
end Go.Proofs.YtpcilobbohokcaaGreat
