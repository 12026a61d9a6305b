/-
  SuiteApart (walk).
-/
import Derived.Test.YtoladcdelaemoaaQeSapc
set_option linter.unusedSimpArgs false
set_option linter.unusedVariables false
set_option maxRecDepth 20000
namespace Go.Proofs.Ytoladcdelaemoaa
open Go Go.Wk Go.RowKit
attribute [local irreducible] go Hold
open Go.Lib
set_option maxRecDepth 20000 in
set_option maxHeartbeats 40000000 in
theorem apart8_cps (kt : List Int) (a b k j n m t u : List UInt8) (ha : a.length ≤ maxLen) (hb : b.length ≤ maxLen) (hk : k.length ≤ maxLen) (hj : j.length ≤ maxLen) (hn : n.length ≤ maxLen) (hm : m.length ≤ maxLen) (ht : t.length ≤ maxLen) (hu : u.length ≤ maxLen)
    (w : World) (hK : KTab w kt) (R : Ending → World → Prop) (hR : ∀ w', Mod [] w w' → R (.returned (.bool true)) w') :
    Calls Try.prog 5 #[.string ⟨a.toArray⟩, .string ⟨b.toArray⟩, .string ⟨k.toArray⟩, .string ⟨j.toArray⟩, .string ⟨n.toArray⟩, .string ⟨m.toArray⟩, .string ⟨t.toArray⟩, .string ⟨u.toArray⟩] w R := by
  refine calls_go 4000 okT Try.func5 rfl (rs := [.tmp 16]) rfl Try.ntmps5 (args := [.string ⟨a.toArray⟩, .string ⟨b.toArray⟩, .string ⟨k.toArray⟩, .string ⟨j.toArray⟩, .string ⟨n.toArray⟩, .string ⟨m.toArray⟩, .string ⟨t.toArray⟩, .string ⟨u.toArray⟩]) ?_
  simp (maxSteps := 1000000) (disch := first | omega | (simp only [sizeAlloc, sizeDrew, sizeSet, sizePut] <;> omega) | fail) only [GS, TT_eq, TTl, Nat.reduceAdd, Nat.reduceMul, Nat.reduceSub, Nat.reduceDiv, Nat.reduceMod, Nat.reducePow, Nat.reduceEqDiff, ↓reduceIte, reduceCtorEq, Int.reduceToNat, Int.reduceAdd, Int.reduceSub, Int.reduceMul]
  refine ⟨fok17, gNew_cps 1 (by omega) [] (by decide) _ _ (fun h => by simp [sutN] at h) fun σ w1 hσ hS1 hM1 => .inl ⟨_, rfl, hold_ops okT (rs := [.tmp 16]) rfl ?_⟩⟩
  obtain rfl : σ = .trm := by simp [sutN] at hσ; exact hσ.symm
  clear hσ
  generalize w.heap.size = s at *
  simp (maxSteps := 1000000) (disch := first | omega | (simp only [sizeAlloc, sizeDrew, sizeSet, sizePut] <;> omega) | fail) only [GS, TT_eq, TTl, Nat.reduceAdd, Nat.reduceMul, Nat.reduceSub, Nat.reduceDiv, Nat.reduceMod, Nat.reducePow, Nat.reduceEqDiff, ↓reduceIte, reduceCtorEq, Int.reduceToNat, Int.reduceAdd, Int.reduceSub, Int.reduceMul]
  refine ⟨fok18, long8_cps k j n m hk hj hn hm _ _ fun v hv1 => .inl ⟨_, rfl, hold_ops okT (rs := [.tmp 16]) rfl ?_⟩⟩
  cases v
  rotate_left
  · simp (maxSteps := 1000000) (disch := first | omega | (simp only [sizeAlloc, sizeDrew, sizeSet, sizePut] <;> omega) | fail) only [GS, TT_eq, TTl, Nat.reduceAdd, Nat.reduceMul, Nat.reduceSub, Nat.reduceDiv, Nat.reduceMod, Nat.reducePow, Nat.reduceEqDiff, ↓reduceIte, reduceCtorEq, Int.reduceToNat, Int.reduceAdd, Int.reduceSub, Int.reduceMul]
    refine ⟨fok16, alive8_cps kt _ (hK.mod hM1 (by simp)) _ fun w2 hM2 => .inl ⟨_, rfl, hold_ops okT (rs := [.tmp 16]) rfl ?_⟩⟩
    simp (maxSteps := 1000000) (disch := first | omega | (simp only [sizeAlloc, sizeDrew, sizeSet, sizePut] <;> omega) | fail) only [GS, TT_eq, TTl, Nat.reduceAdd, Nat.reduceMul, Nat.reduceSub, Nat.reduceDiv, Nat.reduceMod, Nat.reducePow, Nat.reduceEqDiff, ↓reduceIte, reduceCtorEq, Int.reduceToNat, Int.reduceAdd, Int.reduceSub, Int.reduceMul]
    exact hR _ (hM1.trans hM2 (by simp))
  simp (maxSteps := 1000000) (disch := first | omega | (simp only [sizeAlloc, sizeDrew, sizeSet, sizePut] <;> omega) | fail) only [GS, TT_eq, TTl, Nat.reduceAdd, Nat.reduceMul, Nat.reduceSub, Nat.reduceDiv, Nat.reduceMod, Nat.reducePow, Nat.reduceEqDiff, ↓reduceIte, reduceCtorEq, Int.reduceToNat, Int.reduceAdd, Int.reduceSub, Int.reduceMul]
  refine ⟨fok18, long8_cps t u a b ht hu ha hb _ _ fun v hv2 => .inl ⟨_, rfl, hold_ops okT (rs := [.tmp 16]) rfl ?_⟩⟩
  cases v
  rotate_left
  · simp (maxSteps := 1000000) (disch := first | omega | (simp only [sizeAlloc, sizeDrew, sizeSet, sizePut] <;> omega) | fail) only [GS, TT_eq, TTl, Nat.reduceAdd, Nat.reduceMul, Nat.reduceSub, Nat.reduceDiv, Nat.reduceMod, Nat.reducePow, Nat.reduceEqDiff, ↓reduceIte, reduceCtorEq, Int.reduceToNat, Int.reduceAdd, Int.reduceSub, Int.reduceMul]
    refine ⟨fok16, alive8_cps kt _ (hK.mod hM1 (by simp)) _ fun w2 hM2 => .inl ⟨_, rfl, hold_ops okT (rs := [.tmp 16]) rfl ?_⟩⟩
    simp (maxSteps := 1000000) (disch := first | omega | (simp only [sizeAlloc, sizeDrew, sizeSet, sizePut] <;> omega) | fail) only [GS, TT_eq, TTl, Nat.reduceAdd, Nat.reduceMul, Nat.reduceSub, Nat.reduceDiv, Nat.reduceMod, Nat.reducePow, Nat.reduceEqDiff, ↓reduceIte, reduceCtorEq, Int.reduceToNat, Int.reduceAdd, Int.reduceSub, Int.reduceMul]
    exact hR _ (hM1.trans hM2 (by simp))
  obtain ⟨lk, lj, ln, lm⟩ := hv1 rfl
  obtain ⟨lt, lu, la, lb⟩ := hv2 rfl
  clear hv1 hv2 hk hj hn hm ht hu ha hb
  have p1 : ∀ x y : List UInt8, keyG kt .trm a = (x, 0) → keyG kt .trm b = (y, 0) → (x = y ↔ a = b) := fun x y h h2 => atom_inj h h2
  have p2 : ∀ x y : List UInt8, hashG kt .trm t = (x, 0) → hashG kt .trm u = (y, 0) → (x = y ↔ t = u) := fun x y h h2 => by
    have q1 := (hash_is h).2.2.1
    have q2 := (hash_is h2).2.2.1
    constructor
    · intro e; rw [e, q2] at q1; exact (List.cons.inj q1).1.symm
    · intro e; rw [e, h2] at h; exact (congrArg Prod.fst h).symm
  have p3 : ∀ x y : List UInt8, macG kt .trm k t = (x, 0) → macG kt .trm j u = (y, 0) → (x = y ↔ k = j ∧ t = u) := fun x y h h2 => by
    have q1 := (mac_is h).2.2.1
    have q2 := (mac_is h2).2.2.1
    constructor
    · intro e; rw [e, q2] at q1; simp only [List.cons.injEq, and_true] at q1; exact ⟨q1.1.symm, q1.2.symm⟩
    · rintro ⟨e1, e2⟩; rw [e1, e2, h2] at h; exact (congrArg Prod.fst h).symm
  have p4 : ∀ x y : List UInt8, sealG kt .trm k n t = (x, 0) → sealG kt .trm j m u = (y, 0) → (x = y ↔ k = j ∧ n = m ∧ t = u) := fun x y h h2 => by
    have q1 := (seal_is h).2.2.1
    have q2 := (seal_is h2).2.2.1
    constructor
    · intro e; rw [e, q2] at q1; simp only [List.cons.injEq, and_true] at q1; exact ⟨q1.1.symm, q1.2.1.symm, q1.2.2.symm⟩
    · rintro ⟨e1, e2, e3⟩; rw [e1, e2, e3, h2] at h; exact (congrArg Prod.fst h).symm
  have p5 : ∀ x y : List UInt8, hashG kt .trm t = (x, 0) → macG kt .trm k t = (y, 0) → ¬ x = y := fun x y h h2 e => by
    have q1 := (hash_is h).2.1
    have q2 := (mac_is h2).2.1
    rw [e, q2] at q1; exact absurd q1 (by decide)
  have p6 : ∀ x y : List UInt8, macG kt .trm k t = (x, 0) → sealG kt .trm k n t = (y, 0) → ¬ x = y := fun x y h h2 e => by
    have q1 := (mac_is h).2.1
    have q2 := (seal_is h2).2.1
    rw [e, q2] at q1; exact absurd q1 (by decide)
  simp (maxSteps := 1000000) (disch := first | omega | (simp only [sizeAlloc, sizeDrew, sizeSet, sizePut] <;> omega) | fail) only [GS, TT_eq, TTl, Nat.reduceAdd, Nat.reduceMul, Nat.reduceSub, Nat.reduceDiv, Nat.reduceMod, Nat.reducePow, Nat.reduceEqDiff, ↓reduceIte, reduceCtorEq, Int.reduceToNat, Int.reduceAdd, Int.reduceSub, Int.reduceMul]
  refine ⟨fok19, gKey_cps kt .trm s a (by unfold maxLen; omega) _ hS1 (hK.mod hM1 (by simp)) _ fun w2 hN2 => .inl ⟨_, rfl, hold_ops okT (rs := [.tmp 16]) rfl ?_⟩⟩
  replace hS1 := hS1.mod hN2
  replace hM1 := hM1.trans hN2 (by simp)
  generalize keyG kt .trm a = X0 at *
  obtain ⟨x0, e0⟩ := X0
  unfold stV
  simp (maxSteps := 1000000) (disch := first | omega | (simp only [sizeAlloc, sizeDrew, sizeSet, sizePut] <;> omega) | fail) only [GS, TT_eq, TTl, Nat.reduceAdd, Nat.reduceMul, Nat.reduceSub, Nat.reduceDiv, Nat.reduceMod, Nat.reducePow, Nat.reduceEqDiff, ↓reduceIte, reduceCtorEq, Int.reduceToNat, Int.reduceAdd, Int.reduceSub, Int.reduceMul]
  refine ⟨fok19, gKey_cps kt .trm s b (by unfold maxLen; omega) _ hS1 (hK.mod hM1 (by simp)) _ fun w3 hN3 => .inl ⟨_, rfl, hold_ops okT (rs := [.tmp 16]) rfl ?_⟩⟩
  replace hS1 := hS1.mod hN3
  replace hM1 := hM1.trans hN3 (by simp)
  generalize keyG kt .trm b = X1 at *
  obtain ⟨x1, e1⟩ := X1
  unfold stV
  simp (maxSteps := 1000000) (disch := first | omega | (simp only [sizeAlloc, sizeDrew, sizeSet, sizePut] <;> omega) | fail) only [GS, TT_eq, TTl, Nat.reduceAdd, Nat.reduceMul, Nat.reduceSub, Nat.reduceDiv, Nat.reduceMod, Nat.reducePow, Nat.reduceEqDiff, ↓reduceIte, reduceCtorEq, Int.reduceToNat, Int.reduceAdd, Int.reduceSub, Int.reduceMul]
  refine ⟨fok20, gHash_cps kt .trm s t (by omega) _ hS1 (hK.mod hM1 (by simp)) _ fun w4 hN4 => .inl ⟨_, rfl, hold_ops okT (rs := [.tmp 16]) rfl ?_⟩⟩
  replace hS1 := hS1.mod hN4
  replace hM1 := hM1.trans hN4 (by simp)
  generalize hashG kt .trm t = X2 at *
  obtain ⟨x2, e2⟩ := X2
  unfold stV
  simp (maxSteps := 1000000) (disch := first | omega | (simp only [sizeAlloc, sizeDrew, sizeSet, sizePut] <;> omega) | fail) only [GS, TT_eq, TTl, Nat.reduceAdd, Nat.reduceMul, Nat.reduceSub, Nat.reduceDiv, Nat.reduceMod, Nat.reducePow, Nat.reduceEqDiff, ↓reduceIte, reduceCtorEq, Int.reduceToNat, Int.reduceAdd, Int.reduceSub, Int.reduceMul]
  refine ⟨fok20, gHash_cps kt .trm s u (by omega) _ hS1 (hK.mod hM1 (by simp)) _ fun w5 hN5 => .inl ⟨_, rfl, hold_ops okT (rs := [.tmp 16]) rfl ?_⟩⟩
  replace hS1 := hS1.mod hN5
  replace hM1 := hM1.trans hN5 (by simp)
  generalize hashG kt .trm u = X3 at *
  obtain ⟨x3, e3⟩ := X3
  unfold stV
  simp (maxSteps := 1000000) (disch := first | omega | (simp only [sizeAlloc, sizeDrew, sizeSet, sizePut] <;> omega) | fail) only [GS, TT_eq, TTl, Nat.reduceAdd, Nat.reduceMul, Nat.reduceSub, Nat.reduceDiv, Nat.reduceMod, Nat.reducePow, Nat.reduceEqDiff, ↓reduceIte, reduceCtorEq, Int.reduceToNat, Int.reduceAdd, Int.reduceSub, Int.reduceMul]
  refine ⟨fok21, gMac_cps kt .trm s k t (by omega) (by omega) _ hS1 (hK.mod hM1 (by simp)) _ fun w6 hN6 => .inl ⟨_, rfl, hold_ops okT (rs := [.tmp 16]) rfl ?_⟩⟩
  replace hS1 := hS1.mod hN6
  replace hM1 := hM1.trans hN6 (by simp)
  generalize macG kt .trm k t = X4 at *
  obtain ⟨x4, e4⟩ := X4
  unfold stV
  simp (maxSteps := 1000000) (disch := first | omega | (simp only [sizeAlloc, sizeDrew, sizeSet, sizePut] <;> omega) | fail) only [GS, TT_eq, TTl, Nat.reduceAdd, Nat.reduceMul, Nat.reduceSub, Nat.reduceDiv, Nat.reduceMod, Nat.reducePow, Nat.reduceEqDiff, ↓reduceIte, reduceCtorEq, Int.reduceToNat, Int.reduceAdd, Int.reduceSub, Int.reduceMul]
  refine ⟨fok21, gMac_cps kt .trm s j u (by omega) (by omega) _ hS1 (hK.mod hM1 (by simp)) _ fun w7 hN7 => .inl ⟨_, rfl, hold_ops okT (rs := [.tmp 16]) rfl ?_⟩⟩
  replace hS1 := hS1.mod hN7
  replace hM1 := hM1.trans hN7 (by simp)
  generalize macG kt .trm j u = X5 at *
  obtain ⟨x5, e5⟩ := X5
  unfold stV
  simp (maxSteps := 1000000) (disch := first | omega | (simp only [sizeAlloc, sizeDrew, sizeSet, sizePut] <;> omega) | fail) only [GS, TT_eq, TTl, Nat.reduceAdd, Nat.reduceMul, Nat.reduceSub, Nat.reduceDiv, Nat.reduceMod, Nat.reducePow, Nat.reduceEqDiff, ↓reduceIte, reduceCtorEq, Int.reduceToNat, Int.reduceAdd, Int.reduceSub, Int.reduceMul]
  refine ⟨fok22, gSeal_cps kt .trm s k n t (by omega) (by omega) (by omega) _ hS1 (hK.mod hM1 (by simp)) _ fun w8 hN8 => .inl ⟨_, rfl, hold_ops okT (rs := [.tmp 16]) rfl ?_⟩⟩
  replace hS1 := hS1.mod hN8
  replace hM1 := hM1.trans hN8 (by simp)
  generalize sealG kt .trm k n t = X6 at *
  obtain ⟨x6, e6⟩ := X6
  unfold stV
  simp (maxSteps := 1000000) (disch := first | omega | (simp only [sizeAlloc, sizeDrew, sizeSet, sizePut] <;> omega) | fail) only [GS, TT_eq, TTl, Nat.reduceAdd, Nat.reduceMul, Nat.reduceSub, Nat.reduceDiv, Nat.reduceMod, Nat.reducePow, Nat.reduceEqDiff, ↓reduceIte, reduceCtorEq, Int.reduceToNat, Int.reduceAdd, Int.reduceSub, Int.reduceMul]
  refine ⟨fok22, gSeal_cps kt .trm s j m u (by omega) (by omega) (by omega) _ hS1 (hK.mod hM1 (by simp)) _ fun w9 hN9 => .inl ⟨_, rfl, hold_stop (s' := some 13) (hold_ops okT (rs := [.tmp 16]) rfl ?_)⟩⟩
  replace hS1 := hS1.mod hN9
  replace hM1 := hM1.trans hN9 (by simp)
  generalize sealG kt .trm j m u = X7 at *
  obtain ⟨x7, e7⟩ := X7
  unfold stV
  clear hS1
  simp (maxSteps := 1000000) (disch := first | omega | (simp only [sizeAlloc, sizeDrew, sizeSet, sizePut] <;> omega) | fail) only [GS, TT_eq, TTl, Nat.reduceAdd, Nat.reduceMul, Nat.reduceSub, Nat.reduceDiv, Nat.reduceMod, Nat.reducePow, Nat.reduceEqDiff, ↓reduceIte, reduceCtorEq, Int.reduceToNat, Int.reduceAdd, Int.reduceSub, Int.reduceMul]
  refine hold_stop (s' := some 15) ?_
  apply shareH (fs0 := List.replicate 237 undef) (ls := [0, 1, 2, 3, 4, 5, 6, 7, 17, 18, 19, 20, 21, 22, 23, 24, 25, 26, 27, 28, 29, 30, 31, 32, 33, 34, 35]) (ws := [8, 9, 10, 11, 12, 13, 14, 15, 16, 36, 37, 38, 39, 40, 41, 42, 43, 44, 45, 46, 47, 48, 49, 50, 51, 52, 53, 54, 55, 56, 57, 58, 59, 60, 61, 62, 63, 64, 65, 66, 67, 68, 69, 70, 71, 72, 73, 74, 75, 76, 77, 78, 79, 80, 81, 82, 83, 84, 85, 86, 87, 88, 89, 90, 91, 92, 93, 94, 95, 96, 97, 98, 99, 100, 101, 102, 103, 104, 105, 106, 107, 108, 109, 110, 111, 112, 113, 114, 115, 116, 117, 118, 119, 120, 121, 122, 123, 124, 125, 126, 127, 128, 129, 130, 131, 132, 133, 134, 135, 136, 137, 138, 139, 140, 141, 142, 143, 144, 145, 146, 147, 148, 149, 150, 151, 152, 153, 154, 155, 156, 157, 158, 159, 160, 161, 162, 163, 164, 165, 166, 167, 168, 169, 170, 171, 172, 173, 174, 175, 176, 177, 178, 179, 180, 181, 182, 183, 184, 185, 186, 187, 188, 189, 190, 191, 192, 193, 194, 195, 196, 197, 198, 199, 200, 201, 202, 203, 204, 205, 206, 207, 208, 209, 210, 211, 212, 213, 214, 215, 216, 217, 218, 219, 220, 221, 222, 223, 224, 225, 226, 227, 228, 229, 230, 231, 232, 233, 234, 235, 236]) (I := (fun vs w' => vs = [.string ⟨a.toArray⟩, .string ⟨b.toArray⟩, .string ⟨k.toArray⟩, .string ⟨j.toArray⟩, .string ⟨n.toArray⟩, .string ⟨m.toArray⟩, .string ⟨t.toArray⟩, .string ⟨u.toArray⟩, .pointer (some ⟨s, 0, none⟩), .int .i64 0, .string ⟨x0.toArray⟩, .int .i64 e0, .string ⟨x1.toArray⟩, .int .i64 e1, .string ⟨x2.toArray⟩, .int .i64 e2, .string ⟨x3.toArray⟩, .int .i64 e3, .string ⟨x4.toArray⟩, .int .i64 e4, .string ⟨x5.toArray⟩, .int .i64 e5, .string ⟨x6.toArray⟩, .int .i64 e6, .string ⟨x7.toArray⟩, .int .i64 e7, .int .i64 0] ∧ Mod [] w w'))
  case h1 =>
    intro hq
    refine hold_code (rs := [.tmp 16]) okT rfl ?_
    by_cases he0 : e0 = 0
    rotate_left
    · skip
      by_cases he2 : e2 = 0
      rotate_left
      · skip
        simp (maxSteps := 1000000) (disch := first | omega | (simp only [sizeAlloc, sizeDrew, sizeSet, sizePut] <;> omega) | fail) only [GS, TT_eq, TTl, Nat.reduceAdd, Nat.reduceMul, Nat.reduceSub, Nat.reduceDiv, Nat.reduceMod, Nat.reducePow, Nat.reduceEqDiff, ↓reduceIte, reduceCtorEq, Int.reduceToNat, Int.reduceAdd, Int.reduceSub, Int.reduceMul, eq_self, beq2_selfA, he0, he2]
        exact join (List.replicate 237 undef) [0, 1, 2, 3, 4, 5, 6, 7, 17, 18, 19, 20, 21, 22, 23, 24, 25, 26, 27, 28, 29, 30, 31, 32, 33, 34, 35] [8, 9, 10, 11, 12, 13, 14, 15, 16, 36, 37, 38, 39, 40, 41, 42, 43, 44, 45, 46, 47, 48, 49, 50, 51, 52, 53, 54, 55, 56, 57, 58, 59, 60, 61, 62, 63, 64, 65, 66, 67, 68, 69, 70, 71, 72, 73, 74, 75, 76, 77, 78, 79, 80, 81, 82, 83, 84, 85, 86, 87, 88, 89, 90, 91, 92, 93, 94, 95, 96, 97, 98, 99, 100, 101, 102, 103, 104, 105, 106, 107, 108, 109, 110, 111, 112, 113, 114, 115, 116, 117, 118, 119, 120, 121, 122, 123, 124, 125, 126, 127, 128, 129, 130, 131, 132, 133, 134, 135, 136, 137, 138, 139, 140, 141, 142, 143, 144, 145, 146, 147, 148, 149, 150, 151, 152, 153, 154, 155, 156, 157, 158, 159, 160, 161, 162, 163, 164, 165, 166, 167, 168, 169, 170, 171, 172, 173, 174, 175, 176, 177, 178, 179, 180, 181, 182, 183, 184, 185, 186, 187, 188, 189, 190, 191, 192, 193, 194, 195, 196, 197, 198, 199, 200, 201, 202, 203, 204, 205, 206, 207, 208, 209, 210, 211, 212, 213, 214, 215, 216, 217, 218, 219, 220, 221, 222, 223, 224, 225, 226, 227, 228, 229, 230, 231, 232, 233, 234, 235, 236] (fun vs w' => vs = [.string ⟨a.toArray⟩, .string ⟨b.toArray⟩, .string ⟨k.toArray⟩, .string ⟨j.toArray⟩, .string ⟨n.toArray⟩, .string ⟨m.toArray⟩, .string ⟨t.toArray⟩, .string ⟨u.toArray⟩, .pointer (some ⟨s, 0, none⟩), .int .i64 0, .string ⟨x0.toArray⟩, .int .i64 e0, .string ⟨x1.toArray⟩, .int .i64 e1, .string ⟨x2.toArray⟩, .int .i64 e2, .string ⟨x3.toArray⟩, .int .i64 e3, .string ⟨x4.toArray⟩, .int .i64 e4, .string ⟨x5.toArray⟩, .int .i64 e5, .string ⟨x6.toArray⟩, .int .i64 e6, .string ⟨x7.toArray⟩, .int .i64 e7, .int .i64 0] ∧ Mod [] w w') hq (by kernel_rfl) ⟨rfl, hM1⟩
      have dhe2 := decide_eq_true he2
      by_cases he3 : e3 = 0
      rotate_left
      · skip
        simp (maxSteps := 1000000) (disch := first | omega | (simp only [sizeAlloc, sizeDrew, sizeSet, sizePut] <;> omega) | fail) only [GS, TT_eq, TTl, Nat.reduceAdd, Nat.reduceMul, Nat.reduceSub, Nat.reduceDiv, Nat.reduceMod, Nat.reducePow, Nat.reduceEqDiff, ↓reduceIte, reduceCtorEq, Int.reduceToNat, Int.reduceAdd, Int.reduceSub, Int.reduceMul, eq_self, beq2_selfA, he0, dhe2, he3]
        exact join (List.replicate 237 undef) [0, 1, 2, 3, 4, 5, 6, 7, 17, 18, 19, 20, 21, 22, 23, 24, 25, 26, 27, 28, 29, 30, 31, 32, 33, 34, 35] [8, 9, 10, 11, 12, 13, 14, 15, 16, 36, 37, 38, 39, 40, 41, 42, 43, 44, 45, 46, 47, 48, 49, 50, 51, 52, 53, 54, 55, 56, 57, 58, 59, 60, 61, 62, 63, 64, 65, 66, 67, 68, 69, 70, 71, 72, 73, 74, 75, 76, 77, 78, 79, 80, 81, 82, 83, 84, 85, 86, 87, 88, 89, 90, 91, 92, 93, 94, 95, 96, 97, 98, 99, 100, 101, 102, 103, 104, 105, 106, 107, 108, 109, 110, 111, 112, 113, 114, 115, 116, 117, 118, 119, 120, 121, 122, 123, 124, 125, 126, 127, 128, 129, 130, 131, 132, 133, 134, 135, 136, 137, 138, 139, 140, 141, 142, 143, 144, 145, 146, 147, 148, 149, 150, 151, 152, 153, 154, 155, 156, 157, 158, 159, 160, 161, 162, 163, 164, 165, 166, 167, 168, 169, 170, 171, 172, 173, 174, 175, 176, 177, 178, 179, 180, 181, 182, 183, 184, 185, 186, 187, 188, 189, 190, 191, 192, 193, 194, 195, 196, 197, 198, 199, 200, 201, 202, 203, 204, 205, 206, 207, 208, 209, 210, 211, 212, 213, 214, 215, 216, 217, 218, 219, 220, 221, 222, 223, 224, 225, 226, 227, 228, 229, 230, 231, 232, 233, 234, 235, 236] (fun vs w' => vs = [.string ⟨a.toArray⟩, .string ⟨b.toArray⟩, .string ⟨k.toArray⟩, .string ⟨j.toArray⟩, .string ⟨n.toArray⟩, .string ⟨m.toArray⟩, .string ⟨t.toArray⟩, .string ⟨u.toArray⟩, .pointer (some ⟨s, 0, none⟩), .int .i64 0, .string ⟨x0.toArray⟩, .int .i64 e0, .string ⟨x1.toArray⟩, .int .i64 e1, .string ⟨x2.toArray⟩, .int .i64 e2, .string ⟨x3.toArray⟩, .int .i64 e3, .string ⟨x4.toArray⟩, .int .i64 e4, .string ⟨x5.toArray⟩, .int .i64 e5, .string ⟨x6.toArray⟩, .int .i64 e6, .string ⟨x7.toArray⟩, .int .i64 e7, .int .i64 0] ∧ Mod [] w w') hq (by kernel_rfl) ⟨rfl, hM1⟩
      have dhe3 := decide_eq_true he3
      have q2 := p2 x2 x3 (by rw [he2]) (by rw [he3])
      have c2 : decide (x2 = x3) = decide (t = u) := decide_eq_decide.2 q2
      simp (maxSteps := 1000000) (disch := first | omega | (simp only [sizeAlloc, sizeDrew, sizeSet, sizePut] <;> omega) | fail) only [GS, TT_eq, TTl, Nat.reduceAdd, Nat.reduceMul, Nat.reduceSub, Nat.reduceDiv, Nat.reduceMod, Nat.reducePow, Nat.reduceEqDiff, ↓reduceIte, reduceCtorEq, Int.reduceToNat, Int.reduceAdd, Int.reduceSub, Int.reduceMul, eq_self, beq2_selfA, he0, dhe2, dhe3, c2]
      exact join (List.replicate 237 undef) [0, 1, 2, 3, 4, 5, 6, 7, 17, 18, 19, 20, 21, 22, 23, 24, 25, 26, 27, 28, 29, 30, 31, 32, 33, 34, 35] [8, 9, 10, 11, 12, 13, 14, 15, 16, 36, 37, 38, 39, 40, 41, 42, 43, 44, 45, 46, 47, 48, 49, 50, 51, 52, 53, 54, 55, 56, 57, 58, 59, 60, 61, 62, 63, 64, 65, 66, 67, 68, 69, 70, 71, 72, 73, 74, 75, 76, 77, 78, 79, 80, 81, 82, 83, 84, 85, 86, 87, 88, 89, 90, 91, 92, 93, 94, 95, 96, 97, 98, 99, 100, 101, 102, 103, 104, 105, 106, 107, 108, 109, 110, 111, 112, 113, 114, 115, 116, 117, 118, 119, 120, 121, 122, 123, 124, 125, 126, 127, 128, 129, 130, 131, 132, 133, 134, 135, 136, 137, 138, 139, 140, 141, 142, 143, 144, 145, 146, 147, 148, 149, 150, 151, 152, 153, 154, 155, 156, 157, 158, 159, 160, 161, 162, 163, 164, 165, 166, 167, 168, 169, 170, 171, 172, 173, 174, 175, 176, 177, 178, 179, 180, 181, 182, 183, 184, 185, 186, 187, 188, 189, 190, 191, 192, 193, 194, 195, 196, 197, 198, 199, 200, 201, 202, 203, 204, 205, 206, 207, 208, 209, 210, 211, 212, 213, 214, 215, 216, 217, 218, 219, 220, 221, 222, 223, 224, 225, 226, 227, 228, 229, 230, 231, 232, 233, 234, 235, 236] (fun vs w' => vs = [.string ⟨a.toArray⟩, .string ⟨b.toArray⟩, .string ⟨k.toArray⟩, .string ⟨j.toArray⟩, .string ⟨n.toArray⟩, .string ⟨m.toArray⟩, .string ⟨t.toArray⟩, .string ⟨u.toArray⟩, .pointer (some ⟨s, 0, none⟩), .int .i64 0, .string ⟨x0.toArray⟩, .int .i64 e0, .string ⟨x1.toArray⟩, .int .i64 e1, .string ⟨x2.toArray⟩, .int .i64 e2, .string ⟨x3.toArray⟩, .int .i64 e3, .string ⟨x4.toArray⟩, .int .i64 e4, .string ⟨x5.toArray⟩, .int .i64 e5, .string ⟨x6.toArray⟩, .int .i64 e6, .string ⟨x7.toArray⟩, .int .i64 e7, .int .i64 0] ∧ Mod [] w w') hq (by kernel_rfl) ⟨rfl, hM1⟩
    have dhe0 := decide_eq_true he0
    by_cases he1 : e1 = 0
    rotate_left
    · skip
      by_cases he2 : e2 = 0
      rotate_left
      · skip
        simp (maxSteps := 1000000) (disch := first | omega | (simp only [sizeAlloc, sizeDrew, sizeSet, sizePut] <;> omega) | fail) only [GS, TT_eq, TTl, Nat.reduceAdd, Nat.reduceMul, Nat.reduceSub, Nat.reduceDiv, Nat.reduceMod, Nat.reducePow, Nat.reduceEqDiff, ↓reduceIte, reduceCtorEq, Int.reduceToNat, Int.reduceAdd, Int.reduceSub, Int.reduceMul, eq_self, beq2_selfA, dhe0, he1, he2]
        exact join (List.replicate 237 undef) [0, 1, 2, 3, 4, 5, 6, 7, 17, 18, 19, 20, 21, 22, 23, 24, 25, 26, 27, 28, 29, 30, 31, 32, 33, 34, 35] [8, 9, 10, 11, 12, 13, 14, 15, 16, 36, 37, 38, 39, 40, 41, 42, 43, 44, 45, 46, 47, 48, 49, 50, 51, 52, 53, 54, 55, 56, 57, 58, 59, 60, 61, 62, 63, 64, 65, 66, 67, 68, 69, 70, 71, 72, 73, 74, 75, 76, 77, 78, 79, 80, 81, 82, 83, 84, 85, 86, 87, 88, 89, 90, 91, 92, 93, 94, 95, 96, 97, 98, 99, 100, 101, 102, 103, 104, 105, 106, 107, 108, 109, 110, 111, 112, 113, 114, 115, 116, 117, 118, 119, 120, 121, 122, 123, 124, 125, 126, 127, 128, 129, 130, 131, 132, 133, 134, 135, 136, 137, 138, 139, 140, 141, 142, 143, 144, 145, 146, 147, 148, 149, 150, 151, 152, 153, 154, 155, 156, 157, 158, 159, 160, 161, 162, 163, 164, 165, 166, 167, 168, 169, 170, 171, 172, 173, 174, 175, 176, 177, 178, 179, 180, 181, 182, 183, 184, 185, 186, 187, 188, 189, 190, 191, 192, 193, 194, 195, 196, 197, 198, 199, 200, 201, 202, 203, 204, 205, 206, 207, 208, 209, 210, 211, 212, 213, 214, 215, 216, 217, 218, 219, 220, 221, 222, 223, 224, 225, 226, 227, 228, 229, 230, 231, 232, 233, 234, 235, 236] (fun vs w' => vs = [.string ⟨a.toArray⟩, .string ⟨b.toArray⟩, .string ⟨k.toArray⟩, .string ⟨j.toArray⟩, .string ⟨n.toArray⟩, .string ⟨m.toArray⟩, .string ⟨t.toArray⟩, .string ⟨u.toArray⟩, .pointer (some ⟨s, 0, none⟩), .int .i64 0, .string ⟨x0.toArray⟩, .int .i64 e0, .string ⟨x1.toArray⟩, .int .i64 e1, .string ⟨x2.toArray⟩, .int .i64 e2, .string ⟨x3.toArray⟩, .int .i64 e3, .string ⟨x4.toArray⟩, .int .i64 e4, .string ⟨x5.toArray⟩, .int .i64 e5, .string ⟨x6.toArray⟩, .int .i64 e6, .string ⟨x7.toArray⟩, .int .i64 e7, .int .i64 0] ∧ Mod [] w w') hq (by kernel_rfl) ⟨rfl, hM1⟩
      have dhe2 := decide_eq_true he2
      by_cases he3 : e3 = 0
      rotate_left
      · skip
        simp (maxSteps := 1000000) (disch := first | omega | (simp only [sizeAlloc, sizeDrew, sizeSet, sizePut] <;> omega) | fail) only [GS, TT_eq, TTl, Nat.reduceAdd, Nat.reduceMul, Nat.reduceSub, Nat.reduceDiv, Nat.reduceMod, Nat.reducePow, Nat.reduceEqDiff, ↓reduceIte, reduceCtorEq, Int.reduceToNat, Int.reduceAdd, Int.reduceSub, Int.reduceMul, eq_self, beq2_selfA, dhe0, he1, dhe2, he3]
        exact join (List.replicate 237 undef) [0, 1, 2, 3, 4, 5, 6, 7, 17, 18, 19, 20, 21, 22, 23, 24, 25, 26, 27, 28, 29, 30, 31, 32, 33, 34, 35] [8, 9, 10, 11, 12, 13, 14, 15, 16, 36, 37, 38, 39, 40, 41, 42, 43, 44, 45, 46, 47, 48, 49, 50, 51, 52, 53, 54, 55, 56, 57, 58, 59, 60, 61, 62, 63, 64, 65, 66, 67, 68, 69, 70, 71, 72, 73, 74, 75, 76, 77, 78, 79, 80, 81, 82, 83, 84, 85, 86, 87, 88, 89, 90, 91, 92, 93, 94, 95, 96, 97, 98, 99, 100, 101, 102, 103, 104, 105, 106, 107, 108, 109, 110, 111, 112, 113, 114, 115, 116, 117, 118, 119, 120, 121, 122, 123, 124, 125, 126, 127, 128, 129, 130, 131, 132, 133, 134, 135, 136, 137, 138, 139, 140, 141, 142, 143, 144, 145, 146, 147, 148, 149, 150, 151, 152, 153, 154, 155, 156, 157, 158, 159, 160, 161, 162, 163, 164, 165, 166, 167, 168, 169, 170, 171, 172, 173, 174, 175, 176, 177, 178, 179, 180, 181, 182, 183, 184, 185, 186, 187, 188, 189, 190, 191, 192, 193, 194, 195, 196, 197, 198, 199, 200, 201, 202, 203, 204, 205, 206, 207, 208, 209, 210, 211, 212, 213, 214, 215, 216, 217, 218, 219, 220, 221, 222, 223, 224, 225, 226, 227, 228, 229, 230, 231, 232, 233, 234, 235, 236] (fun vs w' => vs = [.string ⟨a.toArray⟩, .string ⟨b.toArray⟩, .string ⟨k.toArray⟩, .string ⟨j.toArray⟩, .string ⟨n.toArray⟩, .string ⟨m.toArray⟩, .string ⟨t.toArray⟩, .string ⟨u.toArray⟩, .pointer (some ⟨s, 0, none⟩), .int .i64 0, .string ⟨x0.toArray⟩, .int .i64 e0, .string ⟨x1.toArray⟩, .int .i64 e1, .string ⟨x2.toArray⟩, .int .i64 e2, .string ⟨x3.toArray⟩, .int .i64 e3, .string ⟨x4.toArray⟩, .int .i64 e4, .string ⟨x5.toArray⟩, .int .i64 e5, .string ⟨x6.toArray⟩, .int .i64 e6, .string ⟨x7.toArray⟩, .int .i64 e7, .int .i64 0] ∧ Mod [] w w') hq (by kernel_rfl) ⟨rfl, hM1⟩
      have dhe3 := decide_eq_true he3
      have q2 := p2 x2 x3 (by rw [he2]) (by rw [he3])
      have c2 : decide (x2 = x3) = decide (t = u) := decide_eq_decide.2 q2
      simp (maxSteps := 1000000) (disch := first | omega | (simp only [sizeAlloc, sizeDrew, sizeSet, sizePut] <;> omega) | fail) only [GS, TT_eq, TTl, Nat.reduceAdd, Nat.reduceMul, Nat.reduceSub, Nat.reduceDiv, Nat.reduceMod, Nat.reducePow, Nat.reduceEqDiff, ↓reduceIte, reduceCtorEq, Int.reduceToNat, Int.reduceAdd, Int.reduceSub, Int.reduceMul, eq_self, beq2_selfA, dhe0, he1, dhe2, dhe3, c2]
      exact join (List.replicate 237 undef) [0, 1, 2, 3, 4, 5, 6, 7, 17, 18, 19, 20, 21, 22, 23, 24, 25, 26, 27, 28, 29, 30, 31, 32, 33, 34, 35] [8, 9, 10, 11, 12, 13, 14, 15, 16, 36, 37, 38, 39, 40, 41, 42, 43, 44, 45, 46, 47, 48, 49, 50, 51, 52, 53, 54, 55, 56, 57, 58, 59, 60, 61, 62, 63, 64, 65, 66, 67, 68, 69, 70, 71, 72, 73, 74, 75, 76, 77, 78, 79, 80, 81, 82, 83, 84, 85, 86, 87, 88, 89, 90, 91, 92, 93, 94, 95, 96, 97, 98, 99, 100, 101, 102, 103, 104, 105, 106, 107, 108, 109, 110, 111, 112, 113, 114, 115, 116, 117, 118, 119, 120, 121, 122, 123, 124, 125, 126, 127, 128, 129, 130, 131, 132, 133, 134, 135, 136, 137, 138, 139, 140, 141, 142, 143, 144, 145, 146, 147, 148, 149, 150, 151, 152, 153, 154, 155, 156, 157, 158, 159, 160, 161, 162, 163, 164, 165, 166, 167, 168, 169, 170, 171, 172, 173, 174, 175, 176, 177, 178, 179, 180, 181, 182, 183, 184, 185, 186, 187, 188, 189, 190, 191, 192, 193, 194, 195, 196, 197, 198, 199, 200, 201, 202, 203, 204, 205, 206, 207, 208, 209, 210, 211, 212, 213, 214, 215, 216, 217, 218, 219, 220, 221, 222, 223, 224, 225, 226, 227, 228, 229, 230, 231, 232, 233, 234, 235, 236] (fun vs w' => vs = [.string ⟨a.toArray⟩, .string ⟨b.toArray⟩, .string ⟨k.toArray⟩, .string ⟨j.toArray⟩, .string ⟨n.toArray⟩, .string ⟨m.toArray⟩, .string ⟨t.toArray⟩, .string ⟨u.toArray⟩, .pointer (some ⟨s, 0, none⟩), .int .i64 0, .string ⟨x0.toArray⟩, .int .i64 e0, .string ⟨x1.toArray⟩, .int .i64 e1, .string ⟨x2.toArray⟩, .int .i64 e2, .string ⟨x3.toArray⟩, .int .i64 e3, .string ⟨x4.toArray⟩, .int .i64 e4, .string ⟨x5.toArray⟩, .int .i64 e5, .string ⟨x6.toArray⟩, .int .i64 e6, .string ⟨x7.toArray⟩, .int .i64 e7, .int .i64 0] ∧ Mod [] w w') hq (by kernel_rfl) ⟨rfl, hM1⟩
    have dhe1 := decide_eq_true he1
    have q0 := p1 x0 x1 (by rw [he0]) (by rw [he1])
    have c0 : decide (x0 = x1) = decide (a = b) := decide_eq_decide.2 q0
    by_cases he2 : e2 = 0
    rotate_left
    · skip
      simp (maxSteps := 1000000) (disch := first | omega | (simp only [sizeAlloc, sizeDrew, sizeSet, sizePut] <;> omega) | fail) only [GS, TT_eq, TTl, Nat.reduceAdd, Nat.reduceMul, Nat.reduceSub, Nat.reduceDiv, Nat.reduceMod, Nat.reducePow, Nat.reduceEqDiff, ↓reduceIte, reduceCtorEq, Int.reduceToNat, Int.reduceAdd, Int.reduceSub, Int.reduceMul, eq_self, beq2_selfA, dhe0, dhe1, c0, he2]
      exact join (List.replicate 237 undef) [0, 1, 2, 3, 4, 5, 6, 7, 17, 18, 19, 20, 21, 22, 23, 24, 25, 26, 27, 28, 29, 30, 31, 32, 33, 34, 35] [8, 9, 10, 11, 12, 13, 14, 15, 16, 36, 37, 38, 39, 40, 41, 42, 43, 44, 45, 46, 47, 48, 49, 50, 51, 52, 53, 54, 55, 56, 57, 58, 59, 60, 61, 62, 63, 64, 65, 66, 67, 68, 69, 70, 71, 72, 73, 74, 75, 76, 77, 78, 79, 80, 81, 82, 83, 84, 85, 86, 87, 88, 89, 90, 91, 92, 93, 94, 95, 96, 97, 98, 99, 100, 101, 102, 103, 104, 105, 106, 107, 108, 109, 110, 111, 112, 113, 114, 115, 116, 117, 118, 119, 120, 121, 122, 123, 124, 125, 126, 127, 128, 129, 130, 131, 132, 133, 134, 135, 136, 137, 138, 139, 140, 141, 142, 143, 144, 145, 146, 147, 148, 149, 150, 151, 152, 153, 154, 155, 156, 157, 158, 159, 160, 161, 162, 163, 164, 165, 166, 167, 168, 169, 170, 171, 172, 173, 174, 175, 176, 177, 178, 179, 180, 181, 182, 183, 184, 185, 186, 187, 188, 189, 190, 191, 192, 193, 194, 195, 196, 197, 198, 199, 200, 201, 202, 203, 204, 205, 206, 207, 208, 209, 210, 211, 212, 213, 214, 215, 216, 217, 218, 219, 220, 221, 222, 223, 224, 225, 226, 227, 228, 229, 230, 231, 232, 233, 234, 235, 236] (fun vs w' => vs = [.string ⟨a.toArray⟩, .string ⟨b.toArray⟩, .string ⟨k.toArray⟩, .string ⟨j.toArray⟩, .string ⟨n.toArray⟩, .string ⟨m.toArray⟩, .string ⟨t.toArray⟩, .string ⟨u.toArray⟩, .pointer (some ⟨s, 0, none⟩), .int .i64 0, .string ⟨x0.toArray⟩, .int .i64 e0, .string ⟨x1.toArray⟩, .int .i64 e1, .string ⟨x2.toArray⟩, .int .i64 e2, .string ⟨x3.toArray⟩, .int .i64 e3, .string ⟨x4.toArray⟩, .int .i64 e4, .string ⟨x5.toArray⟩, .int .i64 e5, .string ⟨x6.toArray⟩, .int .i64 e6, .string ⟨x7.toArray⟩, .int .i64 e7, .int .i64 0] ∧ Mod [] w w') hq (by kernel_rfl) ⟨rfl, hM1⟩
    have dhe2 := decide_eq_true he2
    by_cases he3 : e3 = 0
    rotate_left
    · skip
      simp (maxSteps := 1000000) (disch := first | omega | (simp only [sizeAlloc, sizeDrew, sizeSet, sizePut] <;> omega) | fail) only [GS, TT_eq, TTl, Nat.reduceAdd, Nat.reduceMul, Nat.reduceSub, Nat.reduceDiv, Nat.reduceMod, Nat.reducePow, Nat.reduceEqDiff, ↓reduceIte, reduceCtorEq, Int.reduceToNat, Int.reduceAdd, Int.reduceSub, Int.reduceMul, eq_self, beq2_selfA, dhe0, dhe1, c0, dhe2, he3]
      exact join (List.replicate 237 undef) [0, 1, 2, 3, 4, 5, 6, 7, 17, 18, 19, 20, 21, 22, 23, 24, 25, 26, 27, 28, 29, 30, 31, 32, 33, 34, 35] [8, 9, 10, 11, 12, 13, 14, 15, 16, 36, 37, 38, 39, 40, 41, 42, 43, 44, 45, 46, 47, 48, 49, 50, 51, 52, 53, 54, 55, 56, 57, 58, 59, 60, 61, 62, 63, 64, 65, 66, 67, 68, 69, 70, 71, 72, 73, 74, 75, 76, 77, 78, 79, 80, 81, 82, 83, 84, 85, 86, 87, 88, 89, 90, 91, 92, 93, 94, 95, 96, 97, 98, 99, 100, 101, 102, 103, 104, 105, 106, 107, 108, 109, 110, 111, 112, 113, 114, 115, 116, 117, 118, 119, 120, 121, 122, 123, 124, 125, 126, 127, 128, 129, 130, 131, 132, 133, 134, 135, 136, 137, 138, 139, 140, 141, 142, 143, 144, 145, 146, 147, 148, 149, 150, 151, 152, 153, 154, 155, 156, 157, 158, 159, 160, 161, 162, 163, 164, 165, 166, 167, 168, 169, 170, 171, 172, 173, 174, 175, 176, 177, 178, 179, 180, 181, 182, 183, 184, 185, 186, 187, 188, 189, 190, 191, 192, 193, 194, 195, 196, 197, 198, 199, 200, 201, 202, 203, 204, 205, 206, 207, 208, 209, 210, 211, 212, 213, 214, 215, 216, 217, 218, 219, 220, 221, 222, 223, 224, 225, 226, 227, 228, 229, 230, 231, 232, 233, 234, 235, 236] (fun vs w' => vs = [.string ⟨a.toArray⟩, .string ⟨b.toArray⟩, .string ⟨k.toArray⟩, .string ⟨j.toArray⟩, .string ⟨n.toArray⟩, .string ⟨m.toArray⟩, .string ⟨t.toArray⟩, .string ⟨u.toArray⟩, .pointer (some ⟨s, 0, none⟩), .int .i64 0, .string ⟨x0.toArray⟩, .int .i64 e0, .string ⟨x1.toArray⟩, .int .i64 e1, .string ⟨x2.toArray⟩, .int .i64 e2, .string ⟨x3.toArray⟩, .int .i64 e3, .string ⟨x4.toArray⟩, .int .i64 e4, .string ⟨x5.toArray⟩, .int .i64 e5, .string ⟨x6.toArray⟩, .int .i64 e6, .string ⟨x7.toArray⟩, .int .i64 e7, .int .i64 0] ∧ Mod [] w w') hq (by kernel_rfl) ⟨rfl, hM1⟩
    have dhe3 := decide_eq_true he3
    have q2 := p2 x2 x3 (by rw [he2]) (by rw [he3])
    have c2 : decide (x2 = x3) = decide (t = u) := decide_eq_decide.2 q2
    simp (maxSteps := 1000000) (disch := first | omega | (simp only [sizeAlloc, sizeDrew, sizeSet, sizePut] <;> omega) | fail) only [GS, TT_eq, TTl, Nat.reduceAdd, Nat.reduceMul, Nat.reduceSub, Nat.reduceDiv, Nat.reduceMod, Nat.reducePow, Nat.reduceEqDiff, ↓reduceIte, reduceCtorEq, Int.reduceToNat, Int.reduceAdd, Int.reduceSub, Int.reduceMul, eq_self, beq2_selfA, dhe0, dhe1, c0, dhe2, dhe3, c2]
    exact join (List.replicate 237 undef) [0, 1, 2, 3, 4, 5, 6, 7, 17, 18, 19, 20, 21, 22, 23, 24, 25, 26, 27, 28, 29, 30, 31, 32, 33, 34, 35] [8, 9, 10, 11, 12, 13, 14, 15, 16, 36, 37, 38, 39, 40, 41, 42, 43, 44, 45, 46, 47, 48, 49, 50, 51, 52, 53, 54, 55, 56, 57, 58, 59, 60, 61, 62, 63, 64, 65, 66, 67, 68, 69, 70, 71, 72, 73, 74, 75, 76, 77, 78, 79, 80, 81, 82, 83, 84, 85, 86, 87, 88, 89, 90, 91, 92, 93, 94, 95, 96, 97, 98, 99, 100, 101, 102, 103, 104, 105, 106, 107, 108, 109, 110, 111, 112, 113, 114, 115, 116, 117, 118, 119, 120, 121, 122, 123, 124, 125, 126, 127, 128, 129, 130, 131, 132, 133, 134, 135, 136, 137, 138, 139, 140, 141, 142, 143, 144, 145, 146, 147, 148, 149, 150, 151, 152, 153, 154, 155, 156, 157, 158, 159, 160, 161, 162, 163, 164, 165, 166, 167, 168, 169, 170, 171, 172, 173, 174, 175, 176, 177, 178, 179, 180, 181, 182, 183, 184, 185, 186, 187, 188, 189, 190, 191, 192, 193, 194, 195, 196, 197, 198, 199, 200, 201, 202, 203, 204, 205, 206, 207, 208, 209, 210, 211, 212, 213, 214, 215, 216, 217, 218, 219, 220, 221, 222, 223, 224, 225, 226, 227, 228, 229, 230, 231, 232, 233, 234, 235, 236] (fun vs w' => vs = [.string ⟨a.toArray⟩, .string ⟨b.toArray⟩, .string ⟨k.toArray⟩, .string ⟨j.toArray⟩, .string ⟨n.toArray⟩, .string ⟨m.toArray⟩, .string ⟨t.toArray⟩, .string ⟨u.toArray⟩, .pointer (some ⟨s, 0, none⟩), .int .i64 0, .string ⟨x0.toArray⟩, .int .i64 e0, .string ⟨x1.toArray⟩, .int .i64 e1, .string ⟨x2.toArray⟩, .int .i64 e2, .string ⟨x3.toArray⟩, .int .i64 e3, .string ⟨x4.toArray⟩, .int .i64 e4, .string ⟨x5.toArray⟩, .int .i64 e5, .string ⟨x6.toArray⟩, .int .i64 e6, .string ⟨x7.toArray⟩, .int .i64 e7, .int .i64 0] ∧ Mod [] w w') hq (by kernel_rfl) ⟨rfl, hM1⟩
  case h2 =>
    rintro vs w10 J ⟨rfl, hM1⟩
    refine hold_stop (s' := some 17) ?_
    by_cases kj : k = j
    · exact apart15y kt a b k j n m t u x0 x1 x2 x3 x4 x5 x6 x7 e0 e1 e2 e3 e4 e5 e6 e7 s w w10 hK R hR hM1 kj p3 p4 p5 p6 J
    · exact apart15n kt a b k j n m t u x0 x1 x2 x3 x4 x5 x6 x7 e0 e1 e2 e3 e4 e5 e6 e7 s w w10 hK R hR hM1 kj p3 p4 p5 p6 J
end Go.Proofs.Ytoladcdelaemoaa
