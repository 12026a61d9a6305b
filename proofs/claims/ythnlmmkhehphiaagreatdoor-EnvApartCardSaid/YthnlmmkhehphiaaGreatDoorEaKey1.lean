/-
  The keys' names (walks): of the program, and of the reference.
-/
import Derived.Test.YthnlmmkhehphiaaGreatDoorEaTab
import Derived.Test.YthnlmmkhehphiaaGreatDoorEaRd
set_option linter.unusedSimpArgs false
set_option linter.unusedVariables false
set_option maxRecDepth 20000
namespace Go.Proofs.YthnlmmkhehphiaaGreatDoor
open Go Go.Wk Go.RowKit
attribute [local irreducible] go Hold
/-- The letters of the kinds lie in memory. -/
structure KG (w : World) : Prop where
  c1 : w.cell? ⟨0, 1, none⟩ = some (.string ⟨#[107]⟩)
  c2 : w.cell? ⟨0, 2, none⟩ = some (.string ⟨#[115]⟩)
theorem KG.lt {w : World} (h : KG w) : 0 < w.heap.size := World.block_lt_of_cell? w _ h.c1
theorem KG.mod {S : List Nat} {w w' : World} (h : KG w) (hM : Mod S w w') (h0 : 0 ∉ S) : KG w' :=
  ⟨(World.cell?_of_block (hM.block 0 h.lt h0)).trans h.c1, (World.cell?_of_block (hM.block 0 h.lt h0)).trans h.c2⟩
def orgOk (a : Int) : Prop := 0 ≤ a ∧ a < 8
instance (n : Int) : Decidable (orgOk n) := inferInstanceAs (Decidable (_ ∧ _))
def pairOk (a b : Int) : Prop := orgOk a ∧ orgOk b
instance (a b : Int) : Decidable (pairOk a b) := inferInstanceAs (Decidable (_ ∧ _))
def lt (k : Int) : UInt8 := if k = 1 then 107 else 115
def keyL (k a b : Int) : List UInt8 := [lt k, 47, UInt8.ofNat (48 + min a b).toNat, 47, UInt8.ofNat (48 + max a b).toNat]
def keyA (k a b : Int) : Value := if pairOk a b then .tuple #[.string ⟨(keyL k a b).toArray⟩, .int .i64 0] else .tuple #[.string ⟨#[]⟩, .int .i64 2]
set_option maxRecDepth 20000 in
set_option maxHeartbeats 2000000 in
theorem kname_cps (k a b : Int) (hk : k = 1 ∨ k = 2) (w : World) (R : Ending → World → Prop) (hg : KG w) (hR : ∀ w', Mod [] w w' → R (.returned (keyA k a b)) w') :
    Calls Tryz.prog 88 #[.int .i64 k, .int .i64 a, .int .i64 b] w R := by
  have h0 := hg.lt
  have c1 := hg.c1; have c2 := hg.c2
  unfold keyA at hR
  by_cases ha1 : a < 0
  · rw [if_neg (fun h => by have := h.1.1; omega)] at hR
    refine calls_go 4000 okT Tryz.func88 rfl (rs := [.tmp 6, .tmp 7]) rfl Tryz.ntmps88 (args := [.int .i64 k, .int .i64 a, .int .i64 b]) ?_
    simp (maxSteps := 1000000) (disch := first | omega | (simp only [sizeAlloc, sizeDrew, sizeSet, sizePut] <;> omega) | fail) only [GS, TT_eq, TTl, Nat.reduceAdd, Nat.reduceMul, Nat.reduceSub, Nat.reduceDiv, Nat.reduceMod, Nat.reducePow, Nat.reduceEqDiff, ↓reduceIte, reduceCtorEq, Int.reduceToNat, Int.reduceAdd, Int.reduceSub, Int.reduceMul]
    exact hR _ (Mod.refl _ _)
  by_cases ha2 : 8 ≤ a
  · rw [if_neg (fun h => by have := h.1.2; omega)] at hR
    refine calls_go 4000 okT Tryz.func88 rfl (rs := [.tmp 6, .tmp 7]) rfl Tryz.ntmps88 (args := [.int .i64 k, .int .i64 a, .int .i64 b]) ?_
    simp (maxSteps := 1000000) (disch := first | omega | (simp only [sizeAlloc, sizeDrew, sizeSet, sizePut] <;> omega) | fail) only [GS, TT_eq, TTl, Nat.reduceAdd, Nat.reduceMul, Nat.reduceSub, Nat.reduceDiv, Nat.reduceMod, Nat.reducePow, Nat.reduceEqDiff, ↓reduceIte, reduceCtorEq, Int.reduceToNat, Int.reduceAdd, Int.reduceSub, Int.reduceMul]
    exact hR _ (Mod.refl _ _)
  by_cases hb1 : b < 0
  · rw [if_neg (fun h => by have := h.2.1; omega)] at hR
    refine calls_go 4000 okT Tryz.func88 rfl (rs := [.tmp 6, .tmp 7]) rfl Tryz.ntmps88 (args := [.int .i64 k, .int .i64 a, .int .i64 b]) ?_
    simp (maxSteps := 1000000) (disch := first | omega | (simp only [sizeAlloc, sizeDrew, sizeSet, sizePut] <;> omega) | fail) only [GS, TT_eq, TTl, Nat.reduceAdd, Nat.reduceMul, Nat.reduceSub, Nat.reduceDiv, Nat.reduceMod, Nat.reducePow, Nat.reduceEqDiff, ↓reduceIte, reduceCtorEq, Int.reduceToNat, Int.reduceAdd, Int.reduceSub, Int.reduceMul]
    exact hR _ (Mod.refl _ _)
  by_cases hb2 : 8 ≤ b
  · rw [if_neg (fun h => by have := h.2.2; omega)] at hR
    refine calls_go 4000 okT Tryz.func88 rfl (rs := [.tmp 6, .tmp 7]) rfl Tryz.ntmps88 (args := [.int .i64 k, .int .i64 a, .int .i64 b]) ?_
    simp (maxSteps := 1000000) (disch := first | omega | (simp only [sizeAlloc, sizeDrew, sizeSet, sizePut] <;> omega) | fail) only [GS, TT_eq, TTl, Nat.reduceAdd, Nat.reduceMul, Nat.reduceSub, Nat.reduceDiv, Nat.reduceMod, Nat.reducePow, Nat.reduceEqDiff, ↓reduceIte, reduceCtorEq, Int.reduceToNat, Int.reduceAdd, Int.reduceSub, Int.reduceMul]
    exact hR _ (Mod.refl _ _)
  rw [if_pos ⟨⟨by omega, by omega⟩, by omega, by omega⟩] at hR
  rcases hk with rfl | rfl
  · refine calls_go 4000 okT Tryz.func88 rfl (rs := [.tmp 6, .tmp 7]) rfl Tryz.ntmps88 (args := [.int .i64 1, .int .i64 a, .int .i64 b]) ?_
    simp (maxSteps := 1000000) (disch := first | omega | (simp only [sizeAlloc, sizeDrew, sizeSet, sizePut] <;> omega) | fail) only [GS, TT_eq, TTl, Nat.reduceAdd, Nat.reduceMul, Nat.reduceSub, Nat.reduceDiv, Nat.reduceMod, Nat.reducePow, Nat.reduceEqDiff, ↓reduceIte, reduceCtorEq, Int.reduceToNat, Int.reduceAdd, Int.reduceSub, Int.reduceMul]
    refine hold_draw okT (rs := [.tmp 6, .tmp 7]) rfl [0, 1, 3, 0, 8, 24, 0, 64, 192, 504, 1016, 2047, 4095, 8191] [0, 1, 2, 3, 4, 5, 6, 7, 8, 9, 10, 11, 12, 13] (by kernel_rfl) (by kernel_rfl) ?_
    simp (maxSteps := 1000000) (disch := first | omega | (simp only [sizeAlloc, sizeDrew, sizeSet, sizePut] <;> omega) | fail) only [GS, TT_eq, TTl, Nat.reduceAdd, Nat.reduceMul, Nat.reduceSub, Nat.reduceDiv, Nat.reduceMod, Nat.reducePow, Nat.reduceEqDiff, ↓reduceIte, reduceCtorEq, Int.reduceToNat, Int.reduceAdd, Int.reduceSub, Int.reduceMul, c1]
    exact hR _ (((Mod.refl _ _).drewN 1).alloc _)
  · refine calls_go 4000 okT Tryz.func88 rfl (rs := [.tmp 6, .tmp 7]) rfl Tryz.ntmps88 (args := [.int .i64 2, .int .i64 a, .int .i64 b]) ?_
    simp (maxSteps := 1000000) (disch := first | omega | (simp only [sizeAlloc, sizeDrew, sizeSet, sizePut] <;> omega) | fail) only [GS, TT_eq, TTl, Nat.reduceAdd, Nat.reduceMul, Nat.reduceSub, Nat.reduceDiv, Nat.reduceMod, Nat.reducePow, Nat.reduceEqDiff, ↓reduceIte, reduceCtorEq, Int.reduceToNat, Int.reduceAdd, Int.reduceSub, Int.reduceMul]
    refine hold_draw okT (rs := [.tmp 6, .tmp 7]) rfl [0, 1, 3, 0, 8, 24, 0, 64, 192, 504, 1016, 2047, 4095, 8191] [0, 1, 2, 3, 4, 5, 6, 7, 8, 9, 10, 11, 12, 13] (by kernel_rfl) (by kernel_rfl) ?_
    simp (maxSteps := 1000000) (disch := first | omega | (simp only [sizeAlloc, sizeDrew, sizeSet, sizePut] <;> omega) | fail) only [GS, TT_eq, TTl, Nat.reduceAdd, Nat.reduceMul, Nat.reduceSub, Nat.reduceDiv, Nat.reduceMod, Nat.reducePow, Nat.reduceEqDiff, ↓reduceIte, reduceCtorEq, Int.reduceToNat, Int.reduceAdd, Int.reduceSub, Int.reduceMul, c2]
    exact hR _ (((Mod.refl _ _).drewN 1).alloc _)
theorem kTag_cps (a b : Int) (w : World) (R : Ending → World → Prop) (hg : KG w) (hR : ∀ w', Mod [] w w' → R (.returned (keyA 1 a b)) w') : Calls Tryz.prog 40 #[.int .i64 a, .int .i64 b] w R := by
  refine calls_go 4000 okT Tryz.func40 rfl (rs := [.tmp 4, .tmp 5]) rfl Tryz.ntmps40 (args := [.int .i64 a, .int .i64 b]) ?_
  simp (maxSteps := 1000000) (disch := first | omega | (simp only [sizeAlloc, sizeDrew, sizeSet, sizePut] <;> omega) | fail) only [GS, TT_eq, TTl, Nat.reduceAdd, Nat.reduceMul, Nat.reduceSub, Nat.reduceDiv, Nat.reduceMod, Nat.reducePow, Nat.reduceEqDiff, ↓reduceIte, reduceCtorEq, Int.reduceToNat, Int.reduceAdd, Int.reduceSub, Int.reduceMul]
  refine ⟨fok88, kname_cps 1 a b (.inl rfl) _ _ hg fun w1 hM => .inl ⟨_, rfl, hold_ops okT (rs := [.tmp 4, .tmp 5]) rfl ?_⟩⟩
  have := hR _ hM
  unfold keyA at this ⊢
  by_cases h : pairOk a b
  · rw [if_pos h] at this ⊢
    simp (maxSteps := 1000000) (disch := first | omega | (simp only [sizeAlloc, sizeDrew, sizeSet, sizePut] <;> omega) | fail) only [GS, TT_eq, TTl, Nat.reduceAdd, Nat.reduceMul, Nat.reduceSub, Nat.reduceDiv, Nat.reduceMod, Nat.reducePow, Nat.reduceEqDiff, ↓reduceIte, reduceCtorEq, Int.reduceToNat, Int.reduceAdd, Int.reduceSub, Int.reduceMul]
    exact this
  · rw [if_neg h] at this ⊢
    simp (maxSteps := 1000000) (disch := first | omega | (simp only [sizeAlloc, sizeDrew, sizeSet, sizePut] <;> omega) | fail) only [GS, TT_eq, TTl, Nat.reduceAdd, Nat.reduceMul, Nat.reduceSub, Nat.reduceDiv, Nat.reduceMod, Nat.reducePow, Nat.reduceEqDiff, ↓reduceIte, reduceCtorEq, Int.reduceToNat, Int.reduceAdd, Int.reduceSub, Int.reduceMul]
    exact this
end Go.Proofs.YthnlmmkhehphiaaGreatDoor
