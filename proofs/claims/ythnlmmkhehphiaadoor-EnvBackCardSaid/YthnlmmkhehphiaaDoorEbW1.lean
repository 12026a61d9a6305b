/-
  Numbers of terms; organisations, transactions, members (walks). wire: must, num, unnum, row, Txn (walks). wire: Members, unmembers, try (walks). wire: unmembers, try (walks). wire.try (walk).
-/
import Derived.Test.YthnlmmkhehphiaaDoorEbB5
import Derived.Test.YthnlmmkhehphiaaDoorEbB1
set_option linter.unusedSimpArgs false
set_option linter.unusedVariables false
set_option maxRecDepth 20000
namespace Go.Proofs.YthnlmmkhehphiaaDoor
open Go Go.Wk Go.RowKit
attribute [local irreducible] go Hold
open Go.Lib
/-- The number that a term says. -/
def numT (S : List UInt8) : Option Nat := if kindS S = 1 ∧ (readNumS (textS S).1).2.2 = 0 ∧ (readNumS (textS S).1).2.1 = (textS S).1.length ∧ (readNumS (textS S).1).1 ≤ 2147483647 then some (readNumS (textS S).1).1 else none
def nuV : Option Nat → Value
  | some v => .tuple #[.int .i64 v, .bool true]
  | none => .tuple #[.int .i64 0, .bool false]
theorem kind_c {S : List UInt8} : kindS S ≠ 0 → ∃ c r, S = c :: r ∧ kindS S = kC c := by
  intro h
  unfold kindS at h ⊢
  split at h
  · rename_i hc
    cases S with
    | nil => exact absurd hc checkS_nil
    | cons c r => exact ⟨c, r, rfl, by rw [if_pos hc]; rfl⟩
  · exact absurd rfl h
theorem kC_1 (c : UInt8) : kC c = 1 ↔ c = 100 := by
  have key : ∀ v : Fin 256, kC (UInt8.ofNat v.val) = 1 ↔ v.val = 100 := by decide +kernel
  have h := key ⟨c.toNat, c.toNat_lt⟩
  simp only [UInt8.ofNat_toNat] at h
  rw [h]
  exact ⟨fun e => UInt8.toNat_inj.1 e, fun e => by rw [e]; rfl⟩
set_option maxRecDepth 20000 in
set_option maxHeartbeats 4000000 in
theorem tReadNum_cps (S : List UInt8) (hS : S.length ≤ maxLen) (w : World) (R : Ending → World → Prop) (hR : ∀ w', Mod [] w w' → R (.returned (nuV (numT S))) w') :
    Calls Tryd.prog 35 #[.string ⟨S.toArray⟩] w R := by
  unfold numT at hR
  refine calls_go 4000 okT Tryd.func35 rfl (rs := [.tmp 2, .tmp 3]) rfl Tryd.ntmps35 (args := [.string ⟨S.toArray⟩]) ?_
  simp (maxSteps := 1000000) (disch := first | omega | (simp only [sizeAlloc, sizeDrew, sizeSet, sizePut] <;> omega) | fail) only [GS, TT_eq, TTl, Nat.reduceAdd, Nat.reduceMul, Nat.reduceSub, Nat.reduceDiv, Nat.reduceMod, Nat.reducePow, Nat.reduceEqDiff, ↓reduceIte, reduceCtorEq, Int.reduceToNat, Int.reduceAdd, Int.reduceSub, Int.reduceMul]
  refine ⟨fok54, tText_cps S hS _ _ fun w1 hM1 => .inl ⟨_, rfl, hold_ops okT (rs := [.tmp 2, .tmp 3]) rfl ?_⟩⟩
  by_cases hk : kindS S = 1 ∨ kindS S = 2
  · have ht : (textS S).2 = true := by unfold textS; rw [if_pos hk]
    obtain ⟨c, r, e, hkc⟩ := kind_c (S := S) (by omega)
    have hcl := c.toNat_lt
    have hsl : S.length = r.length + 1 := by rw [e]; rfl
    have g0 : S.getD 0 0 = c := by rw [e]; rfl
    have htl : (textS S).1.length ≤ S.length := by
      unfold textS
      rw [if_pos hk]
      have := (readTextS_len (s := S.drop 1) (m := 1024) (t := (readTextS (S.drop 1) 1024).1) (n := (readTextS (S.drop 1) 1024).2.1) (e := (readTextS (S.drop 1) 1024).2.2) rfl).2
      rw [List.length_drop] at this
      simp only
      omega
    generalize textS S = X at *
    obtain ⟨t, b⟩ := X
    simp only at ht hR htl
    subst ht
    by_cases h1 : kindS S = 1
    · have hc := (kC_1 c).1 (hkc ▸ h1)
      have n1 : c.toNat = 100 := by rw [hc]; rfl
      simp (maxSteps := 1000000) (disch := first | omega | (simp only [sizeAlloc, sizeDrew, sizeSet, sizePut] <;> omega) | fail) only [GS, TT_eq, TTl, Nat.reduceAdd, Nat.reduceMul, Nat.reduceSub, Nat.reduceDiv, Nat.reduceMod, Nat.reducePow, Nat.reduceEqDiff, ↓reduceIte, reduceCtorEq, Int.reduceToNat, Int.reduceAdd, Int.reduceSub, Int.reduceMul, g0]
      refine ⟨fok55, oReadNum_cps t (by omega) _ _ (.inl ⟨_, rfl, hold_ops okT (rs := [.tmp 2, .tmp 3]) rfl ?_⟩)⟩
      generalize readNumS t = Y at *
      obtain ⟨v, n, e⟩ := Y
      unfold rnV
      simp only at hR ⊢
      have hR := hR _ hM1
      by_cases h2 : e = 0
      · by_cases h3 : n = t.length
        · by_cases h4 : v ≤ 2147483647
          · rw [if_pos ⟨h1, h2, h3, h4⟩] at hR
            simp (maxSteps := 1000000) (disch := first | omega | (simp only [sizeAlloc, sizeDrew, sizeSet, sizePut] <;> omega) | fail) only [GS, TT_eq, TTl, Nat.reduceAdd, Nat.reduceMul, Nat.reduceSub, Nat.reduceDiv, Nat.reduceMod, Nat.reducePow, Nat.reduceEqDiff, ↓reduceIte, reduceCtorEq, Int.reduceToNat, Int.reduceAdd, Int.reduceSub, Int.reduceMul]
            exact hR
          · rw [if_neg (fun h => h4 h.2.2.2)] at hR
            simp (maxSteps := 1000000) (disch := first | omega | (simp only [sizeAlloc, sizeDrew, sizeSet, sizePut] <;> omega) | fail) only [GS, TT_eq, TTl, Nat.reduceAdd, Nat.reduceMul, Nat.reduceSub, Nat.reduceDiv, Nat.reduceMod, Nat.reducePow, Nat.reduceEqDiff, ↓reduceIte, reduceCtorEq, Int.reduceToNat, Int.reduceAdd, Int.reduceSub, Int.reduceMul]
            exact hR
        · rw [if_neg (fun h => h3 h.2.2.1)] at hR
          simp (maxSteps := 1000000) (disch := first | omega | (simp only [sizeAlloc, sizeDrew, sizeSet, sizePut] <;> omega) | fail) only [GS, TT_eq, TTl, Nat.reduceAdd, Nat.reduceMul, Nat.reduceSub, Nat.reduceDiv, Nat.reduceMod, Nat.reducePow, Nat.reduceEqDiff, ↓reduceIte, reduceCtorEq, Int.reduceToNat, Int.reduceAdd, Int.reduceSub, Int.reduceMul]
          exact hR
      · rw [if_neg (fun h => h2 h.2.1)] at hR
        simp (maxSteps := 1000000) (disch := first | omega | (simp only [sizeAlloc, sizeDrew, sizeSet, sizePut] <;> omega) | fail) only [GS, TT_eq, TTl, Nat.reduceAdd, Nat.reduceMul, Nat.reduceSub, Nat.reduceDiv, Nat.reduceMod, Nat.reducePow, Nat.reduceEqDiff, ↓reduceIte, reduceCtorEq, Int.reduceToNat, Int.reduceAdd, Int.reduceSub, Int.reduceMul]
        exact hR
    · have hc : c ≠ 100 := fun e => h1 (hkc.trans ((kC_1 c).2 e))
      have n1 : c.toNat ≠ 100 := fun e => hc (UInt8.toNat_inj.1 e)
      rw [if_neg (fun h => h1 h.1)] at hR
      simp (maxSteps := 1000000) (disch := first | omega | (simp only [sizeAlloc, sizeDrew, sizeSet, sizePut] <;> omega) | fail) only [GS, TT_eq, TTl, Nat.reduceAdd, Nat.reduceMul, Nat.reduceSub, Nat.reduceDiv, Nat.reduceMod, Nat.reducePow, Nat.reduceEqDiff, ↓reduceIte, reduceCtorEq, Int.reduceToNat, Int.reduceAdd, Int.reduceSub, Int.reduceMul, g0]
      exact hR _ hM1
  · have ht : textS S = ([], false) := by unfold textS; rw [if_neg hk]
    rw [if_neg (fun h => hk (.inl h.1))] at hR
    rw [ht]
    simp (maxSteps := 1000000) (disch := first | omega | (simp only [sizeAlloc, sizeDrew, sizeSet, sizePut] <;> omega) | fail) only [GS, TT_eq, TTl, Nat.reduceAdd, Nat.reduceMul, Nat.reduceSub, Nat.reduceDiv, Nat.reduceMod, Nat.reducePow, Nat.reduceEqDiff, ↓reduceIte, reduceCtorEq, Int.reduceToNat, Int.reduceAdd, Int.reduceSub, Int.reduceMul]
    exact hR _ hM1
/-- A transaction's name. -/
abbrev Tx := Int × Int × Int
/-- A member: an organisation, a digest. -/
abbrev Mb := Int × List UInt8
def mbC (x : Mb) : List Value := [.int .i64 x.1, .string ⟨x.2.toArray⟩]
end Go.Proofs.YthnlmmkhehphiaaDoor
set_option linter.unusedSimpArgs false
set_option linter.unusedVariables false
set_option maxRecDepth 20000
namespace Go.Proofs.YthnlmmkhehphiaaDoor
open Go Go.Wk Go.RowKit
attribute [local irreducible] go Hold
open Go.Lib
def numE (v : Int) : List UInt8 := (numS v).1
theorem kind_chk {S : List UInt8} {k : Nat} (h : kindS S = k) (hk : k ≠ 0) : checkS S = 0 := by
  unfold kindS at h
  split at h
  · assumption
  · exact absurd h.symm hk
end Go.Proofs.YthnlmmkhehphiaaDoor
set_option linter.unusedSimpArgs false
set_option linter.unusedVariables false
set_option maxRecDepth 20000
namespace Go.Proofs.YthnlmmkhehphiaaDoor
open Go Go.Wk Go.RowKit
attribute [local irreducible] go Hold
open Go.Lib
end Go.Proofs.YthnlmmkhehphiaaDoor
set_option linter.unusedSimpArgs false
set_option linter.unusedVariables false
set_option maxRecDepth 20000
namespace Go.Proofs.YthnlmmkhehphiaaDoor
open Go Go.Wk Go.RowKit
attribute [local irreducible] go Hold
open Go.Lib
theorem parts_ok {S : List UInt8} (h : checkS S = 0) : ∀ p ∈ partsS S, checkS p = 0 := by
  obtain ⟨hd, k, tr⟩ := tr_of h
  rw [tr.parts]
  exact tr.root
end Go.Proofs.YthnlmmkhehphiaaDoor
set_option linter.unusedSimpArgs false
set_option linter.unusedVariables false
set_option maxRecDepth 20000
namespace Go.Proofs.YthnlmmkhehphiaaDoor
open Go Go.Wk Go.RowKit
attribute [local irreducible] go Hold
open Go.Lib
end Go.Proofs.YthnlmmkhehphiaaDoor
