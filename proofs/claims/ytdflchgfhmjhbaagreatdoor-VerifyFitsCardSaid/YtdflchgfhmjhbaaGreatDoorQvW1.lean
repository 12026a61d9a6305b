/-
  Numbers of terms; organisations, transactions, members (walks). wire: must, num, unnum, row, Txn (walks). wire: Members, unmembers, try (walks). wire: unmembers, try (walks). wire.try (walk).
-/
import Derived.Test.YtdflchgfhmjhbaaGreatDoorQvZ2
import Derived.Test.YtdflchgfhmjhbaaGreatDoorQvZ0
set_option linter.unusedSimpArgs false
set_option linter.unusedVariables false
namespace Go.Proofs.YtdflchgfhmjhbaaGreatDoor
set_option maxHeartbeats 8000000
set_option maxRecDepth 20000
open Go Go.Wk Go.RowKit
attribute [local irreducible] go Hold
open Go.Lib
/-- The number that a term says. -/
def numT (S : List UInt8) : Option Nat := if kindS S = 1 ∧ (readNumS (textS S).1).2.2 = 0 ∧ (readNumS (textS S).1).2.1 = (textS S).1.length ∧ (readNumS (textS S).1).1 ≤ 2147483647 then some (readNumS (textS S).1).1 else none
def nuV : Option Nat → Value
  | some v => .tuple #[.int .i64 v, .bool true]
  | none => .tuple #[.int .i64 0, .bool false]
theorem kind_c {S : List UInt8} : kindS S ≠ 0 → ∃ c r, S = c :: r ∧ kindS S = kC c := by
  intro h
  unfold kindS at h ⊢
  split at h
  · rename_i hc
    cases S with
    | nil => exact absurd hc checkS_nil
    | cons c r => exact ⟨c, r, rfl, by rw [if_pos hc]; rfl⟩
  · exact absurd rfl h
theorem kC_1 (c : UInt8) : kC c = 1 ↔ c = 100 := by
  have key : ∀ v : Fin 256, kC (UInt8.ofNat v.val) = 1 ↔ v.val = 100 := by decide +kernel
  have h := key ⟨c.toNat, c.toNat_lt⟩
  simp only [UInt8.ofNat_toNat] at h
  rw [h]
  exact ⟨fun e => UInt8.toNat_inj.1 e, fun e => by rw [e]; rfl⟩
theorem tReadNum_cps (S : List UInt8) (hS : S.length ≤ maxLen) (w : World) (R : Ending → World → Prop) (hR : ∀ w', Mod [] w w' → R (.returned (nuV (numT S))) w') :
    Calls Tryz.prog 95 #[.string ⟨S.toArray⟩] w R := by
  unfold numT at hR
  refine calls_go 4000 okT Tryz.func95 rfl (rs := [.tmp 2, .tmp 3]) rfl Tryz.ntmps95 (args := [.string ⟨S.toArray⟩]) ?_
  simp (maxSteps := 1000000) (disch := first | omega | (simp only [sizeAlloc, sizeDrew, sizeSet, sizePut] <;> omega) | fail) only [GS, TT_eq, TTl, Nat.reduceAdd, Nat.reduceMul, Nat.reduceSub, Nat.reduceDiv, Nat.reduceMod, Nat.reducePow, Nat.reduceEqDiff, ↓reduceIte, reduceCtorEq, Int.reduceToNat, Int.reduceAdd, Int.reduceSub, Int.reduceMul]
  refine ⟨fok136, tText_cps S hS _ _ fun w1 hM1 => .inl ⟨_, rfl, hold_ops okT (rs := [.tmp 2, .tmp 3]) rfl ?_⟩⟩
  by_cases hk : kindS S = 1 ∨ kindS S = 2
  · have ht : (textS S).2 = true := by unfold textS; rw [if_pos hk]
    obtain ⟨c, r, e, hkc⟩ := kind_c (S := S) (by omega)
    have hcl := c.toNat_lt
    have hsl : S.length = r.length + 1 := by rw [e]; rfl
    have g0 : S.getD 0 0 = c := by rw [e]; rfl
    have htl : (textS S).1.length ≤ S.length := by
      unfold textS
      rw [if_pos hk]
      have := (readTextS_len (s := S.drop 1) (m := 1024) (t := (readTextS (S.drop 1) 1024).1) (n := (readTextS (S.drop 1) 1024).2.1) (e := (readTextS (S.drop 1) 1024).2.2) rfl).2
      rw [List.length_drop] at this
      simp only
      omega
    generalize textS S = X at *
    obtain ⟨t, b⟩ := X
    simp only at ht hR htl
    subst ht
    by_cases h1 : kindS S = 1
    · have hc := (kC_1 c).1 (hkc ▸ h1)
      have n1 : c.toNat = 100 := by rw [hc]; rfl
      simp (maxSteps := 1000000) (disch := first | omega | (simp only [sizeAlloc, sizeDrew, sizeSet, sizePut] <;> omega) | fail) only [GS, TT_eq, TTl, Nat.reduceAdd, Nat.reduceMul, Nat.reduceSub, Nat.reduceDiv, Nat.reduceMod, Nat.reducePow, Nat.reduceEqDiff, ↓reduceIte, reduceCtorEq, Int.reduceToNat, Int.reduceAdd, Int.reduceSub, Int.reduceMul, g0]
      refine ⟨fok137, oReadNum_cps t (by omega) _ _ (.inl ⟨_, rfl, hold_ops okT (rs := [.tmp 2, .tmp 3]) rfl ?_⟩)⟩
      generalize readNumS t = Y at *
      obtain ⟨v, n, e⟩ := Y
      unfold rnV
      simp only at hR ⊢
      have hR := hR _ hM1
      by_cases h2 : e = 0
      · by_cases h3 : n = t.length
        · by_cases h4 : v ≤ 2147483647
          · rw [if_pos ⟨h1, h2, h3, h4⟩] at hR
            simp (maxSteps := 1000000) (disch := first | omega | (simp only [sizeAlloc, sizeDrew, sizeSet, sizePut] <;> omega) | fail) only [GS, TT_eq, TTl, Nat.reduceAdd, Nat.reduceMul, Nat.reduceSub, Nat.reduceDiv, Nat.reduceMod, Nat.reducePow, Nat.reduceEqDiff, ↓reduceIte, reduceCtorEq, Int.reduceToNat, Int.reduceAdd, Int.reduceSub, Int.reduceMul]
            exact hR
          · rw [if_neg (fun h => h4 h.2.2.2)] at hR
            simp (maxSteps := 1000000) (disch := first | omega | (simp only [sizeAlloc, sizeDrew, sizeSet, sizePut] <;> omega) | fail) only [GS, TT_eq, TTl, Nat.reduceAdd, Nat.reduceMul, Nat.reduceSub, Nat.reduceDiv, Nat.reduceMod, Nat.reducePow, Nat.reduceEqDiff, ↓reduceIte, reduceCtorEq, Int.reduceToNat, Int.reduceAdd, Int.reduceSub, Int.reduceMul]
            exact hR
        · rw [if_neg (fun h => h3 h.2.2.1)] at hR
          simp (maxSteps := 1000000) (disch := first | omega | (simp only [sizeAlloc, sizeDrew, sizeSet, sizePut] <;> omega) | fail) only [GS, TT_eq, TTl, Nat.reduceAdd, Nat.reduceMul, Nat.reduceSub, Nat.reduceDiv, Nat.reduceMod, Nat.reducePow, Nat.reduceEqDiff, ↓reduceIte, reduceCtorEq, Int.reduceToNat, Int.reduceAdd, Int.reduceSub, Int.reduceMul]
          exact hR
      · rw [if_neg (fun h => h2 h.2.1)] at hR
        simp (maxSteps := 1000000) (disch := first | omega | (simp only [sizeAlloc, sizeDrew, sizeSet, sizePut] <;> omega) | fail) only [GS, TT_eq, TTl, Nat.reduceAdd, Nat.reduceMul, Nat.reduceSub, Nat.reduceDiv, Nat.reduceMod, Nat.reducePow, Nat.reduceEqDiff, ↓reduceIte, reduceCtorEq, Int.reduceToNat, Int.reduceAdd, Int.reduceSub, Int.reduceMul]
        exact hR
    · have hc : c ≠ 100 := fun e => h1 (hkc.trans ((kC_1 c).2 e))
      have n1 : c.toNat ≠ 100 := fun e => hc (UInt8.toNat_inj.1 e)
      rw [if_neg (fun h => h1 h.1)] at hR
      simp (maxSteps := 1000000) (disch := first | omega | (simp only [sizeAlloc, sizeDrew, sizeSet, sizePut] <;> omega) | fail) only [GS, TT_eq, TTl, Nat.reduceAdd, Nat.reduceMul, Nat.reduceSub, Nat.reduceDiv, Nat.reduceMod, Nat.reducePow, Nat.reduceEqDiff, ↓reduceIte, reduceCtorEq, Int.reduceToNat, Int.reduceAdd, Int.reduceSub, Int.reduceMul, g0]
      exact hR _ hM1
  · have ht : textS S = ([], false) := by unfold textS; rw [if_neg hk]
    rw [if_neg (fun h => hk (.inl h.1))] at hR
    rw [ht]
    simp (maxSteps := 1000000) (disch := first | omega | (simp only [sizeAlloc, sizeDrew, sizeSet, sizePut] <;> omega) | fail) only [GS, TT_eq, TTl, Nat.reduceAdd, Nat.reduceMul, Nat.reduceSub, Nat.reduceDiv, Nat.reduceMod, Nat.reducePow, Nat.reduceEqDiff, ↓reduceIte, reduceCtorEq, Int.reduceToNat, Int.reduceAdd, Int.reduceSub, Int.reduceMul]
    exact hR _ hM1
def orgB (k : Int) : Bool := decide (0 ≤ k ∧ k < 8)
theorem wOrg_cps (k : Int) (w : World) (R : Ending → World → Prop) (hR : R (.returned (.bool (orgB k))) w) : Calls Tryz.prog 108 #[.int .i64 k] w R := by
  unfold orgB at hR
  refine calls_go 4000 okT Tryz.func108 rfl (rs := [.tmp 2]) rfl Tryz.ntmps108 (args := [.int .i64 k]) ?_
  by_cases h1 : 0 ≤ k
  · by_cases h2 : k < 8
    · rw [decide_eq_true ⟨h1, h2⟩] at hR
      simp (maxSteps := 1000000) (disch := first | omega | (simp only [sizeAlloc, sizeDrew, sizeSet, sizePut] <;> omega) | fail) only [GS, TT_eq, TTl, Nat.reduceAdd, Nat.reduceMul, Nat.reduceSub, Nat.reduceDiv, Nat.reduceMod, Nat.reducePow, Nat.reduceEqDiff, ↓reduceIte, reduceCtorEq, Int.reduceToNat, Int.reduceAdd, Int.reduceSub, Int.reduceMul]
      exact hR
    · rw [decide_eq_false (fun h => h2 h.2)] at hR
      simp (maxSteps := 1000000) (disch := first | omega | (simp only [sizeAlloc, sizeDrew, sizeSet, sizePut] <;> omega) | fail) only [GS, TT_eq, TTl, Nat.reduceAdd, Nat.reduceMul, Nat.reduceSub, Nat.reduceDiv, Nat.reduceMod, Nat.reducePow, Nat.reduceEqDiff, ↓reduceIte, reduceCtorEq, Int.reduceToNat, Int.reduceAdd, Int.reduceSub, Int.reduceMul]
      exact hR
  · rw [decide_eq_false (fun h => h1 h.1)] at hR
    simp (maxSteps := 1000000) (disch := first | omega | (simp only [sizeAlloc, sizeDrew, sizeSet, sizePut] <;> omega) | fail) only [GS, TT_eq, TTl, Nat.reduceAdd, Nat.reduceMul, Nat.reduceSub, Nat.reduceDiv, Nat.reduceMod, Nat.reducePow, Nat.reduceEqDiff, ↓reduceIte, reduceCtorEq, Int.reduceToNat, Int.reduceAdd, Int.reduceSub, Int.reduceMul]
    exact hR
/-- A transaction's name. -/
abbrev Tx := Int × Int × Int
def txC (x : Tx) : List Value := [.int .i64 x.1, .int .i64 x.2.1, .int .i64 x.2.2]
def txV (x : Tx) : Value := .agg #[.int .i64 x.1, .int .i64 x.2.1, .int .i64 x.2.2]
def txB (x : Tx) : Bool := decide (0 ≤ x.1 ∧ x.1 < 8 ∧ 1 ≤ x.2.1 ∧ x.2.1 ≤ 255 ∧ 1 ≤ x.2.2 ∧ x.2.2 ≤ 65535)
theorem wMayTxn_cps (x : Tx) (w : World) (R : Ending → World → Prop) (hR : ∀ w', Mod [] w w' → R (.returned (.bool (txB x))) w') : Calls Tryz.prog 73 #[txV x] w R := by
  obtain ⟨a, b, c⟩ := x
  unfold txB at hR
  unfold txV
  simp only at hR ⊢
  refine calls_go 4000 okT Tryz.func73 rfl (rs := [.tmp 2]) rfl Tryz.ntmps73 (args := [.agg #[.int .i64 a, .int .i64 b, .int .i64 c]]) ?_
  simp (maxSteps := 1000000) (disch := first | omega | (simp only [sizeAlloc, sizeDrew, sizeSet, sizePut] <;> omega) | fail) only [GS, TT_eq, TTl, Nat.reduceAdd, Nat.reduceMul, Nat.reduceSub, Nat.reduceDiv, Nat.reduceMod, Nat.reducePow, Nat.reduceEqDiff, ↓reduceIte, reduceCtorEq, Int.reduceToNat, Int.reduceAdd, Int.reduceSub, Int.reduceMul]
  have hM := (Mod.refl [] w).alloc (.cells #[.int .i64 a, .int .i64 b, .int .i64 c] 23)
  have hb := heapNew (w := w) (o := .cells #[.int .i64 a, .int .i64 b, .int .i64 c] 23)
  generalize w.alloc (.cells #[.int .i64 a, .int .i64 b, .int .i64 c] 23) = w1 at hM hb ⊢
  generalize w.heap.size = n at *
  have c1 : w1.cell? ⟨n, 1, none⟩ = some (.int .i64 b) := by rw [cellOf hb]; rfl
  have c2 : w1.cell? ⟨n, 2, none⟩ = some (.int .i64 c) := by rw [cellOf hb]; rfl
  have hR := hR _ hM
  refine ⟨fok108, wOrg_cps a _ _ (.inl ⟨_, rfl, hold_ops okT (rs := [.tmp 2]) rfl ?_⟩)⟩
  unfold orgB
  by_cases h1 : 0 ≤ a ∧ a < 8
  · rw [decide_eq_true h1]
    by_cases h2 : 1 ≤ b
    · by_cases h3 : b ≤ 255
      · by_cases h4 : 1 ≤ c
        · by_cases h5 : c ≤ 65535
          · rw [decide_eq_true (by omega)] at hR
            simp (maxSteps := 1000000) (disch := first | omega | (simp only [sizeAlloc, sizeDrew, sizeSet, sizePut] <;> omega) | fail) only [GS, TT_eq, TTl, Nat.reduceAdd, Nat.reduceMul, Nat.reduceSub, Nat.reduceDiv, Nat.reduceMod, Nat.reducePow, Nat.reduceEqDiff, ↓reduceIte, reduceCtorEq, Int.reduceToNat, Int.reduceAdd, Int.reduceSub, Int.reduceMul, c1, c2]
            exact hR
          · rw [decide_eq_false (by omega)] at hR
            simp (maxSteps := 1000000) (disch := first | omega | (simp only [sizeAlloc, sizeDrew, sizeSet, sizePut] <;> omega) | fail) only [GS, TT_eq, TTl, Nat.reduceAdd, Nat.reduceMul, Nat.reduceSub, Nat.reduceDiv, Nat.reduceMod, Nat.reducePow, Nat.reduceEqDiff, ↓reduceIte, reduceCtorEq, Int.reduceToNat, Int.reduceAdd, Int.reduceSub, Int.reduceMul, c1, c2]
            exact hR
        · rw [decide_eq_false (by omega)] at hR
          simp (maxSteps := 1000000) (disch := first | omega | (simp only [sizeAlloc, sizeDrew, sizeSet, sizePut] <;> omega) | fail) only [GS, TT_eq, TTl, Nat.reduceAdd, Nat.reduceMul, Nat.reduceSub, Nat.reduceDiv, Nat.reduceMod, Nat.reducePow, Nat.reduceEqDiff, ↓reduceIte, reduceCtorEq, Int.reduceToNat, Int.reduceAdd, Int.reduceSub, Int.reduceMul, c1, c2]
          exact hR
      · rw [decide_eq_false (by omega)] at hR
        simp (maxSteps := 1000000) (disch := first | omega | (simp only [sizeAlloc, sizeDrew, sizeSet, sizePut] <;> omega) | fail) only [GS, TT_eq, TTl, Nat.reduceAdd, Nat.reduceMul, Nat.reduceSub, Nat.reduceDiv, Nat.reduceMod, Nat.reducePow, Nat.reduceEqDiff, ↓reduceIte, reduceCtorEq, Int.reduceToNat, Int.reduceAdd, Int.reduceSub, Int.reduceMul, c1, c2]
        exact hR
    · rw [decide_eq_false (by omega)] at hR
      simp (maxSteps := 1000000) (disch := first | omega | (simp only [sizeAlloc, sizeDrew, sizeSet, sizePut] <;> omega) | fail) only [GS, TT_eq, TTl, Nat.reduceAdd, Nat.reduceMul, Nat.reduceSub, Nat.reduceDiv, Nat.reduceMod, Nat.reducePow, Nat.reduceEqDiff, ↓reduceIte, reduceCtorEq, Int.reduceToNat, Int.reduceAdd, Int.reduceSub, Int.reduceMul, c1, c2]
      exact hR
  · rw [decide_eq_false h1]
    rw [decide_eq_false (by omega)] at hR
    simp (maxSteps := 1000000) (disch := first | omega | (simp only [sizeAlloc, sizeDrew, sizeSet, sizePut] <;> omega) | fail) only [GS, TT_eq, TTl, Nat.reduceAdd, Nat.reduceMul, Nat.reduceSub, Nat.reduceDiv, Nat.reduceMod, Nat.reducePow, Nat.reduceEqDiff, ↓reduceIte, reduceCtorEq, Int.reduceToNat, Int.reduceAdd, Int.reduceSub, Int.reduceMul, c1, c2]
    exact hR
/-- A member: an organisation, a digest. -/
abbrev Mb := Int × List UInt8
def mbC (x : Mb) : List Value := [.int .i64 x.1, .string ⟨x.2.toArray⟩]
theorem mbC_len (x : Mb) : (mbC x).length = 2 := rfl
def mbsB (c : Int) : Int → List Mb → Bool
  | _, [] => true
  | last, x :: l => decide (orgB x.1 = true ∧ x.1 ≠ c ∧ last < x.1 ∧ checkS x.2 = 0) && mbsB c x.1 l
def mbB (c : Int) (l : List Mb) : Bool := mbsB c (-1) l && decide (1 ≤ l.length ∧ l.length ≤ 6)
theorem wMayMembers_cps (x : Tx) (sa : Value) (l : List Mb) (w : World) (R : Ending → World → Prop) (hl : l.length ≤ 1000000) (hd : ∀ m ∈ l, m.2.length ≤ maxLen) (ha : Rd w 2 sa l.length (l.flatMap mbC)) (hR : ∀ w', Mod [] w w' → R (.returned (.bool (mbB x.1 l))) w') :
    Calls Tryz.prog 74 #[txV x, sa] w R := by
  obtain ⟨a, b, c⟩ := x
  unfold mbB at hR
  unfold txV
  simp only at hR ⊢
  obtain ⟨la, lc, rfl⟩ := ha.slice
  refine calls_go 4000 okT Tryz.func74 rfl (rs := [.tmp 4]) rfl Tryz.ntmps74 (args := [.agg #[.int .i64 a, .int .i64 b, .int .i64 c], .slice la l.length lc]) ?_
  simp (maxSteps := 1000000) (disch := first | omega | (simp only [sizeAlloc, sizeDrew, sizeSet, sizePut] <;> omega) | fail) only [GS, TT_eq, TTl, Nat.reduceAdd, Nat.reduceMul, Nat.reduceSub, Nat.reduceDiv, Nat.reduceMod, Nat.reducePow, Nat.reduceEqDiff, ↓reduceIte, reduceCtorEq, Int.reduceToNat, Int.reduceAdd, Int.reduceSub, Int.reduceMul]
  have hM := (Mod.refl [] w).alloc (.cells #[.int .i64 a, .int .i64 b, .int .i64 c] 23)
  have hb := heapNew (w := w) (o := .cells #[.int .i64 a, .int .i64 b, .int .i64 c] 23)
  generalize w.alloc (.cells #[.int .i64 a, .int .i64 b, .int .i64 c] 23) = w1 at hM hb ⊢
  generalize hn : w.heap.size = n at *
  refine hold_loop okT (rs := [.tmp 4]) rfl [5, 10] [4, 7, 11, 12, 13, 14, 15, 16, 17, 18, 19, 20, 21, 22, 23, 24, 25, 26, 27, 28, 29, 30, 31, 32, 33, 34, 35, 36, 37, 38, 39] (fun vs w' => ∃ (k : Nat) (last : Int), vs = [.int .i64 last, .int .i64 k] ∧ k ≤ l.length ∧ mbsB a (-1) l = mbsB a last (l.drop k) ∧ Mod [] w1 w') (fun vs _ => match vs with | [_, .int _ i] => l.length - i.toNat | _ => 0) (by kernel_rfl) ⟨0, -1, rfl, by omega, by rw [List.drop_zero], Mod.refl _ _⟩ ?_
  rintro vs w2 J ⟨k, last, rfl, hk, hX, hM2⟩
  have hb2 := hM2.get hb (by simp)
  have c0 : w2.cell? ⟨n, 0, none⟩ = some (.int .i64 a) := by rw [cellOf hb2]; rfl
  have hrd := (ha.mod hM (by simp)).mod hM2 (by simp)
  by_cases hlt : k < l.length
  · obtain ⟨b1, o1, c1, e1, _, g1⟩ := hrd.at (by omega) (by omega)
    have hfl := fun j hj => flat_get mbC 2 mbC_len l k hlt j hj
    have hdm := hd _ (List.getElem_mem hlt)
    rw [List.drop_eq_getElem_cons hlt, mbsB] at hX
    generalize l[k] = m at hfl hdm hX
    obtain ⟨mo, md⟩ := m
    rw [Value.slice.injEq] at e1
    obtain ⟨rfl, -, -⟩ := e1
    have d0 : w2.cell? ⟨b1, o1 + k * 2, none⟩ = some (.int .i64 mo) := by rw [← g1 (k * 2) _ (hfl 0 (by omega))]
    have d1 : w2.cell? ⟨b1, o1 + k * 2 + 1, none⟩ = some (.string ⟨md.toArray⟩) := by rw [← g1 (k * 2 + 1) _ (hfl 1 (by omega))]; rfl
    simp only at hX hdm
    simp (maxSteps := 1000000) (disch := first | omega | (simp only [sizeAlloc, sizeDrew, sizeSet, sizePut] <;> omega) | fail) only [GS, TT_eq, TTl, Nat.reduceAdd, Nat.reduceMul, Nat.reduceSub, Nat.reduceDiv, Nat.reduceMod, Nat.reducePow, Nat.reduceEqDiff, ↓reduceIte, reduceCtorEq, Int.reduceToNat, Int.reduceAdd, Int.reduceSub, Int.reduceMul, d0, d1]
    have hMx := (((Mod.refl [] w2).alloc (.cells #[.int .i64 0, .string ⟨#[]⟩] 84)).set (p := ⟨w2.heap.size, 0, none⟩) (.inr (Nat.le_refl _)) (.int .i64 mo)).set (p := ⟨w2.heap.size, 1, none⟩) (.inr (Nat.le_refl _)) (.string ⟨md.toArray⟩)
    have hbx := heapSet (o := 1) (v := .string ⟨md.toArray⟩) (heapSet (o := 0) (v := .int .i64 mo) (heapNew (w := w2) (o := .cells #[.int .i64 0, .string ⟨#[]⟩] 84)))
    generalize ((w2.alloc (.cells #[.int .i64 0, .string ⟨#[]⟩] 84)).setCell ⟨w2.heap.size, 0, none⟩ (.int .i64 mo)).setCell ⟨w2.heap.size, 1, none⟩ (.string ⟨md.toArray⟩) = w3 at hMx hbx ⊢
    have hbn := hMx.get hb2 (by simp)
    generalize hx : w2.heap.size = nx at *
    have d5 : w3.cell? ⟨nx, 0, none⟩ = some (.int .i64 mo) := by rw [cellOf hbx]; rfl
    have d6 : w3.cell? ⟨nx, 1, none⟩ = some (.string ⟨md.toArray⟩) := by rw [cellOf hbx]; rfl
    have d7 : w3.cell? ⟨n, 0, none⟩ = some (.int .i64 a) := by rw [cellOf hbn]; rfl
    have hM3 := hM2.trans hMx (by simp)
    have hF : mbsB a (-1) l = false → R (.returned (.bool false)) w3 := fun h => by
      have := hR _ (hM.trans hM3 (by simp))
      rw [h, Bool.false_and] at this; exact this
    refine ⟨fok108, wOrg_cps mo _ _ (.inl ⟨_, rfl, hold_ops okT (rs := [.tmp 4]) rfl ?_⟩)⟩
    cases ho : orgB mo
    · rw [decide_eq_false (by rw [ho]; simp), Bool.false_and] at hX
      simp (maxSteps := 1000000) (disch := first | omega | (simp only [sizeAlloc, sizeDrew, sizeSet, sizePut] <;> omega) | fail) only [GS, TT_eq, TTl, Nat.reduceAdd, Nat.reduceMul, Nat.reduceSub, Nat.reduceDiv, Nat.reduceMod, Nat.reducePow, Nat.reduceEqDiff, ↓reduceIte, reduceCtorEq, Int.reduceToNat, Int.reduceAdd, Int.reduceSub, Int.reduceMul]
      exact hF hX
    by_cases h1 : mo = a
    · rw [decide_eq_false (fun h => h.2.1 h1), Bool.false_and] at hX
      simp (maxSteps := 1000000) (disch := first | omega | (simp only [sizeAlloc, sizeDrew, sizeSet, sizePut] <;> omega) | fail) only [GS, TT_eq, TTl, Nat.reduceAdd, Nat.reduceMul, Nat.reduceSub, Nat.reduceDiv, Nat.reduceMod, Nat.reducePow, Nat.reduceEqDiff, ↓reduceIte, reduceCtorEq, Int.reduceToNat, Int.reduceAdd, Int.reduceSub, Int.reduceMul, d5, d6, d7]
      exact hF hX
    by_cases h2 : mo ≤ last
    · rw [decide_eq_false (fun h => by have := h.2.2.1; omega), Bool.false_and] at hX
      simp (maxSteps := 1000000) (disch := first | omega | (simp only [sizeAlloc, sizeDrew, sizeSet, sizePut] <;> omega) | fail) only [GS, TT_eq, TTl, Nat.reduceAdd, Nat.reduceMul, Nat.reduceSub, Nat.reduceDiv, Nat.reduceMod, Nat.reducePow, Nat.reduceEqDiff, ↓reduceIte, reduceCtorEq, Int.reduceToNat, Int.reduceAdd, Int.reduceSub, Int.reduceMul, d5, d6, d7]
      exact hF hX
    simp (maxSteps := 1000000) (disch := first | omega | (simp only [sizeAlloc, sizeDrew, sizeSet, sizePut] <;> omega) | fail) only [GS, TT_eq, TTl, Nat.reduceAdd, Nat.reduceMul, Nat.reduceSub, Nat.reduceDiv, Nat.reduceMod, Nat.reducePow, Nat.reduceEqDiff, ↓reduceIte, reduceCtorEq, Int.reduceToNat, Int.reduceAdd, Int.reduceSub, Int.reduceMul, d5, d6, d7]
    refine ⟨fok72, tCheck_cps md hdm _ _ fun w4 hM4 => .inl ⟨_, rfl, hold_ops okT (rs := [.tmp 4]) rfl ?_⟩⟩
    have hbx4 := hM4.get hbx (by simp)
    have d8 : w4.cell? ⟨nx, 0, none⟩ = some (.int .i64 mo) := by rw [cellOf hbx4]; rfl
    have hM4 := hM3.trans hM4 (by simp)
    by_cases h3 : checkS md = 0
    · rw [decide_eq_true ⟨ho, h1, by omega, h3⟩, Bool.true_and] at hX
      simp (maxSteps := 1000000) (disch := first | omega | (simp only [sizeAlloc, sizeDrew, sizeSet, sizePut] <;> omega) | fail) only [GS, TT_eq, TTl, Nat.reduceAdd, Nat.reduceMul, Nat.reduceSub, Nat.reduceDiv, Nat.reduceMod, Nat.reducePow, Nat.reduceEqDiff, ↓reduceIte, reduceCtorEq, Int.reduceToNat, Int.reduceAdd, Int.reduceSub, Int.reduceMul, d8]
      exact ⟨⟨k + 1, mo, rfl, by omega, hX, hM4⟩, by omega⟩
    · rw [decide_eq_false (fun h => h3 h.2.2.2), Bool.false_and] at hX
      simp (maxSteps := 1000000) (disch := first | omega | (simp only [sizeAlloc, sizeDrew, sizeSet, sizePut] <;> omega) | fail) only [GS, TT_eq, TTl, Nat.reduceAdd, Nat.reduceMul, Nat.reduceSub, Nat.reduceDiv, Nat.reduceMod, Nat.reducePow, Nat.reduceEqDiff, ↓reduceIte, reduceCtorEq, Int.reduceToNat, Int.reduceAdd, Int.reduceSub, Int.reduceMul, d8]
      have := hR _ (hM.trans hM4 (by simp))
      rw [hX, Bool.false_and] at this
      exact this
  · have e : k = l.length := by omega
    subst e
    rw [List.drop_length, mbsB] at hX
    rw [hX, Bool.true_and] at hR
    have hR := hR _ (hM.trans hM2 (by simp))
    by_cases h1 : 1 ≤ l.length
    · by_cases h6 : l.length ≤ 6
      · rw [decide_eq_true ⟨h1, h6⟩] at hR
        simp (maxSteps := 1000000) (disch := first | omega | (simp only [sizeAlloc, sizeDrew, sizeSet, sizePut] <;> omega) | fail) only [GS, TT_eq, TTl, Nat.reduceAdd, Nat.reduceMul, Nat.reduceSub, Nat.reduceDiv, Nat.reduceMod, Nat.reducePow, Nat.reduceEqDiff, ↓reduceIte, reduceCtorEq, Int.reduceToNat, Int.reduceAdd, Int.reduceSub, Int.reduceMul]
        exact hR
      · rw [decide_eq_false (fun h => h6 h.2)] at hR
        simp (maxSteps := 1000000) (disch := first | omega | (simp only [sizeAlloc, sizeDrew, sizeSet, sizePut] <;> omega) | fail) only [GS, TT_eq, TTl, Nat.reduceAdd, Nat.reduceMul, Nat.reduceSub, Nat.reduceDiv, Nat.reduceMod, Nat.reducePow, Nat.reduceEqDiff, ↓reduceIte, reduceCtorEq, Int.reduceToNat, Int.reduceAdd, Int.reduceSub, Int.reduceMul]
        exact hR
    · rw [decide_eq_false (fun h => h1 h.1)] at hR
      simp (maxSteps := 1000000) (disch := first | omega | (simp only [sizeAlloc, sizeDrew, sizeSet, sizePut] <;> omega) | fail) only [GS, TT_eq, TTl, Nat.reduceAdd, Nat.reduceMul, Nat.reduceSub, Nat.reduceDiv, Nat.reduceMod, Nat.reducePow, Nat.reduceEqDiff, ↓reduceIte, reduceCtorEq, Int.reduceToNat, Int.reduceAdd, Int.reduceSub, Int.reduceMul]
      exact hR
def wnoneV : List PanicEntry := [{ v := .iface 234 (.agg #[]), recovered := false }]
theorem wMust_cps (b : Bool) (w : World) (R : Ending → World → Prop) (h1 : b = true → R (.returned (.tuple #[])) w) (h0 : b = false → R (.panicked wnoneV) w) : Calls Tryz.prog 127 #[.bool b] w R := by
  refine calls_go 4000 okT Tryz.func127 rfl (rs := []) rfl Tryz.ntmps127 (args := [.bool b]) ?_
  cases b
  · simp (maxSteps := 1000000) (disch := first | omega | (simp only [sizeAlloc, sizeDrew, sizeSet, sizePut] <;> omega) | fail) only [GS, TT_eq, TTl, Nat.reduceAdd, Nat.reduceMul, Nat.reduceSub, Nat.reduceDiv, Nat.reduceMod, Nat.reducePow, Nat.reduceEqDiff, ↓reduceIte, reduceCtorEq, Int.reduceToNat, Int.reduceAdd, Int.reduceSub, Int.reduceMul]
    unfold panW
    refine hold_ex okT (rs := []) rfl ?_
    simp (maxSteps := 1000000) (disch := first | omega | (simp only [sizeAlloc, sizeDrew, sizeSet, sizePut] <;> omega) | fail) only [GS, TT_eq, TTl, Nat.reduceAdd, Nat.reduceMul, Nat.reduceSub, Nat.reduceDiv, Nat.reduceMod, Nat.reducePow, Nat.reduceEqDiff, ↓reduceIte, reduceCtorEq, Int.reduceToNat, Int.reduceAdd, Int.reduceSub, Int.reduceMul]
    exact h0 rfl
  · simp (maxSteps := 1000000) (disch := first | omega | (simp only [sizeAlloc, sizeDrew, sizeSet, sizePut] <;> omega) | fail) only [GS, TT_eq, TTl, Nat.reduceAdd, Nat.reduceMul, Nat.reduceSub, Nat.reduceDiv, Nat.reduceMod, Nat.reducePow, Nat.reduceEqDiff, ↓reduceIte, reduceCtorEq, Int.reduceToNat, Int.reduceAdd, Int.reduceSub, Int.reduceMul]
    exact h1 rfl
def numE (v : Int) : List UInt8 := (numS v).1
theorem wNum_cps (v : Int) (h1 : -9223372036854775808 ≤ v) (h2 : v ≤ 9223372036854775807) (w : World) (R : Ending → World → Prop) (hR : ∀ w', Mod [] w w' → R (.returned (.string ⟨(numE v).toArray⟩)) w') : Calls Tryz.prog 80 #[.int .i64 v] w R := by
  unfold numE at hR
  refine calls_go 4000 okT Tryz.func80 rfl (rs := [.tmp 2]) rfl Tryz.ntmps80 (args := [.int .i64 v]) ?_
  simp (maxSteps := 1000000) (disch := first | omega | (simp only [sizeAlloc, sizeDrew, sizeSet, sizePut] <;> omega) | fail) only [GS, TT_eq, TTl, Nat.reduceAdd, Nat.reduceMul, Nat.reduceSub, Nat.reduceDiv, Nat.reduceMod, Nat.reducePow, Nat.reduceEqDiff, ↓reduceIte, reduceCtorEq, Int.reduceToNat, Int.reduceAdd, Int.reduceSub, Int.reduceMul]
  refine ⟨fok42, tNum_cps v h1 h2 _ _ fun w1 hM => .inl ⟨_, rfl, hold_ops okT (rs := [.tmp 2]) rfl ?_⟩⟩
  generalize numS v = P at *
  obtain ⟨t, e⟩ := P
  unfold stV
  simp (maxSteps := 1000000) (disch := first | omega | (simp only [sizeAlloc, sizeDrew, sizeSet, sizePut] <;> omega) | fail) only [GS, TT_eq, TTl, Nat.reduceAdd, Nat.reduceMul, Nat.reduceSub, Nat.reduceDiv, Nat.reduceMod, Nat.reducePow, Nat.reduceEqDiff, ↓reduceIte, reduceCtorEq, Int.reduceToNat, Int.reduceAdd, Int.reduceSub, Int.reduceMul]
  exact hR _ hM
theorem wUnnum_cps (S : List UInt8) (hS : S.length ≤ maxLen) (w : World) (R : Ending → World → Prop) (h1 : ∀ v w', numT S = some v → Mod [] w w' → R (.returned (.int .i64 v)) w') (h0 : numT S = none → ∀ w', Mod [] w w' → R (.panicked wnoneV) w') : Calls Tryz.prog 120 #[.string ⟨S.toArray⟩] w R := by
  refine calls_go 4000 okT Tryz.func120 rfl (rs := [.tmp 2]) rfl Tryz.ntmps120 (args := [.string ⟨S.toArray⟩]) ?_
  simp (maxSteps := 1000000) (disch := first | omega | (simp only [sizeAlloc, sizeDrew, sizeSet, sizePut] <;> omega) | fail) only [GS, TT_eq, TTl, Nat.reduceAdd, Nat.reduceMul, Nat.reduceSub, Nat.reduceDiv, Nat.reduceMod, Nat.reducePow, Nat.reduceEqDiff, ↓reduceIte, reduceCtorEq, Int.reduceToNat, Int.reduceAdd, Int.reduceSub, Int.reduceMul]
  refine ⟨fok95, tReadNum_cps S hS _ _ fun w1 hM => .inl ⟨_, rfl, hold_ops okT (rs := [.tmp 2]) rfl ?_⟩⟩
  cases hn : numT S with
  | none =>
    unfold nuV
    simp (maxSteps := 1000000) (disch := first | omega | (simp only [sizeAlloc, sizeDrew, sizeSet, sizePut] <;> omega) | fail) only [GS, TT_eq, TTl, Nat.reduceAdd, Nat.reduceMul, Nat.reduceSub, Nat.reduceDiv, Nat.reduceMod, Nat.reducePow, Nat.reduceEqDiff, ↓reduceIte, reduceCtorEq, Int.reduceToNat, Int.reduceAdd, Int.reduceSub, Int.reduceMul]
    refine ⟨fok127, wMust_cps false _ _ (fun h => absurd h (by simp)) (fun _ => .inr ⟨_, rfl, hold_ex okT (rs := [.tmp 2]) rfl ?_⟩)⟩
    simp (maxSteps := 1000000) (disch := first | omega | (simp only [sizeAlloc, sizeDrew, sizeSet, sizePut] <;> omega) | fail) only [GS, TT_eq, TTl, Nat.reduceAdd, Nat.reduceMul, Nat.reduceSub, Nat.reduceDiv, Nat.reduceMod, Nat.reducePow, Nat.reduceEqDiff, ↓reduceIte, reduceCtorEq, Int.reduceToNat, Int.reduceAdd, Int.reduceSub, Int.reduceMul]
    exact h0 hn _ hM
  | some v =>
    unfold nuV
    simp (maxSteps := 1000000) (disch := first | omega | (simp only [sizeAlloc, sizeDrew, sizeSet, sizePut] <;> omega) | fail) only [GS, TT_eq, TTl, Nat.reduceAdd, Nat.reduceMul, Nat.reduceSub, Nat.reduceDiv, Nat.reduceMod, Nat.reducePow, Nat.reduceEqDiff, ↓reduceIte, reduceCtorEq, Int.reduceToNat, Int.reduceAdd, Int.reduceSub, Int.reduceMul]
    refine ⟨fok127, wMust_cps true _ _ (fun _ => .inl ⟨_, rfl, hold_ops okT (rs := [.tmp 2]) rfl ?_⟩) (fun h => absurd h (by simp))⟩
    simp (maxSteps := 1000000) (disch := first | omega | (simp only [sizeAlloc, sizeDrew, sizeSet, sizePut] <;> omega) | fail) only [GS, TT_eq, TTl, Nat.reduceAdd, Nat.reduceMul, Nat.reduceSub, Nat.reduceDiv, Nat.reduceMod, Nat.reducePow, Nat.reduceEqDiff, ↓reduceIte, reduceCtorEq, Int.reduceToNat, Int.reduceAdd, Int.reduceSub, Int.reduceMul]
    exact h1 v _ hn hM
/-- The parts of a row of so many. -/
def rowO (S : List UInt8) (a b : Nat) : Option (List (List UInt8)) := if kindS S = 3 ∧ a ≤ (partsS S).length ∧ (partsS S).length ≤ b then some (partsS S) else none
theorem kind_chk {S : List UInt8} {k : Nat} (h : kindS S = k) (hk : k ≠ 0) : checkS S = 0 := by
  unfold kindS at h
  split at h
  · assumption
  · exact absurd h.symm hk
theorem wRow_cps (S : List UInt8) (a b : Nat) (ha : a ≤ 100) (hb : b ≤ 100) (hS : S.length ≤ maxLen) (w : World) (R : Ending → World → Prop) (h1 : ∀ l sv w', rowO S a b = some l → w'.ownsRow w.heap.size 9 1 sv l.length (l.map strV) → Mod [] w w' → R (.returned sv) w') (h0 : rowO S a b = none → ∀ w', Mod [] w w' → R (.panicked wnoneV) w') :
    Calls Tryz.prog 139 #[.string ⟨S.toArray⟩, .int .i64 a, .int .i64 b] w R := by
  generalize hX : rowO S a b = X at h1 h0
  unfold rowO at hX
  refine calls_go 4000 okT Tryz.func139 rfl (rs := [.tmp 6]) rfl Tryz.ntmps139 (args := [.string ⟨S.toArray⟩, .int .i64 a, .int .i64 b]) ?_
  simp (maxSteps := 1000000) (disch := first | omega | (simp only [sizeAlloc, sizeDrew, sizeSet, sizePut] <;> omega) | fail) only [GS, TT_eq, TTl, Nat.reduceAdd, Nat.reduceMul, Nat.reduceSub, Nat.reduceDiv, Nat.reduceMod, Nat.reducePow, Nat.reduceEqDiff, ↓reduceIte, reduceCtorEq, Int.reduceToNat, Int.reduceAdd, Int.reduceSub, Int.reduceMul]
  refine ⟨fok32, tKind_cps S hS _ _ fun w1 hM1 => .inl ⟨_, rfl, hold_ops okT (rs := [.tmp 6]) rfl ?_⟩⟩
  by_cases hk : kindS S = 3
  · have hc := kind_chk hk (by decide)
    simp (maxSteps := 1000000) (disch := first | omega | (simp only [sizeAlloc, sizeDrew, sizeSet, sizePut] <;> omega) | fail) only [GS, TT_eq, TTl, Nat.reduceAdd, Nat.reduceMul, Nat.reduceSub, Nat.reduceDiv, Nat.reduceMod, Nat.reducePow, Nat.reduceEqDiff, ↓reduceIte, reduceCtorEq, Int.reduceToNat, Int.reduceAdd, Int.reduceSub, Int.reduceMul]
    refine ⟨fok127, wMust_cps true _ _ (fun _ => .inl ⟨_, rfl, hold_ops okT (rs := [.tmp 6]) rfl ?_⟩) (fun h => absurd h (by simp))⟩
    simp (maxSteps := 1000000) (disch := first | omega | (simp only [sizeAlloc, sizeDrew, sizeSet, sizePut] <;> omega) | fail) only [GS, TT_eq, TTl, Nat.reduceAdd, Nat.reduceMul, Nat.reduceSub, Nat.reduceDiv, Nat.reduceMod, Nat.reducePow, Nat.reduceEqDiff, ↓reduceIte, reduceCtorEq, Int.reduceToNat, Int.reduceAdd, Int.reduceSub, Int.reduceMul]
    refine ⟨fok92, tParts_cps S hS _ _ (fun h => absurd hc h) fun _ sv w2 hown hM2 => .inl ⟨_, rfl, hold_ops okT (rs := [.tmp 6]) rfl ?_⟩⟩
    have hown := ownsRow_base hown hM1.size
    have hM := hM1.trans hM2 (by simp)
    have hpn := partsS_len S
    have hSl := (check0 hc).2.2.1
    obtain ⟨la, lc, rfl⟩ := (Rd.own hown).slice
    by_cases h2 : a ≤ (partsS S).length
    · by_cases h3 : (partsS S).length ≤ b
      · rw [if_pos ⟨hk, h2, h3⟩] at hX
        simp (maxSteps := 1000000) (disch := first | omega | (simp only [sizeAlloc, sizeDrew, sizeSet, sizePut] <;> omega) | fail) only [GS, TT_eq, TTl, Nat.reduceAdd, Nat.reduceMul, Nat.reduceSub, Nat.reduceDiv, Nat.reduceMod, Nat.reducePow, Nat.reduceEqDiff, ↓reduceIte, reduceCtorEq, Int.reduceToNat, Int.reduceAdd, Int.reduceSub, Int.reduceMul]
        refine ⟨fok127, wMust_cps true _ _ (fun _ => .inl ⟨_, rfl, hold_ops okT (rs := [.tmp 6]) rfl ?_⟩) (fun h => absurd h (by simp))⟩
        simp (maxSteps := 1000000) (disch := first | omega | (simp only [sizeAlloc, sizeDrew, sizeSet, sizePut] <;> omega) | fail) only [GS, TT_eq, TTl, Nat.reduceAdd, Nat.reduceMul, Nat.reduceSub, Nat.reduceDiv, Nat.reduceMod, Nat.reducePow, Nat.reduceEqDiff, ↓reduceIte, reduceCtorEq, Int.reduceToNat, Int.reduceAdd, Int.reduceSub, Int.reduceMul]
        exact h1 _ _ _ hX.symm hown hM
      · rw [if_neg (fun h => h3 h.2.2)] at hX
        simp (maxSteps := 1000000) (disch := first | omega | (simp only [sizeAlloc, sizeDrew, sizeSet, sizePut] <;> omega) | fail) only [GS, TT_eq, TTl, Nat.reduceAdd, Nat.reduceMul, Nat.reduceSub, Nat.reduceDiv, Nat.reduceMod, Nat.reducePow, Nat.reduceEqDiff, ↓reduceIte, reduceCtorEq, Int.reduceToNat, Int.reduceAdd, Int.reduceSub, Int.reduceMul]
        refine ⟨fok127, wMust_cps false _ _ (fun h => absurd h (by simp)) (fun _ => .inr ⟨_, rfl, hold_ex okT (rs := [.tmp 6]) rfl ?_⟩)⟩
        simp (maxSteps := 1000000) (disch := first | omega | (simp only [sizeAlloc, sizeDrew, sizeSet, sizePut] <;> omega) | fail) only [GS, TT_eq, TTl, Nat.reduceAdd, Nat.reduceMul, Nat.reduceSub, Nat.reduceDiv, Nat.reduceMod, Nat.reducePow, Nat.reduceEqDiff, ↓reduceIte, reduceCtorEq, Int.reduceToNat, Int.reduceAdd, Int.reduceSub, Int.reduceMul]
        exact h0 hX.symm _ hM
    · rw [if_neg (fun h => h2 h.2.1)] at hX
      simp (maxSteps := 1000000) (disch := first | omega | (simp only [sizeAlloc, sizeDrew, sizeSet, sizePut] <;> omega) | fail) only [GS, TT_eq, TTl, Nat.reduceAdd, Nat.reduceMul, Nat.reduceSub, Nat.reduceDiv, Nat.reduceMod, Nat.reducePow, Nat.reduceEqDiff, ↓reduceIte, reduceCtorEq, Int.reduceToNat, Int.reduceAdd, Int.reduceSub, Int.reduceMul]
      refine ⟨fok127, wMust_cps false _ _ (fun h => absurd h (by simp)) (fun _ => .inr ⟨_, rfl, hold_ex okT (rs := [.tmp 6]) rfl ?_⟩)⟩
      simp (maxSteps := 1000000) (disch := first | omega | (simp only [sizeAlloc, sizeDrew, sizeSet, sizePut] <;> omega) | fail) only [GS, TT_eq, TTl, Nat.reduceAdd, Nat.reduceMul, Nat.reduceSub, Nat.reduceDiv, Nat.reduceMod, Nat.reducePow, Nat.reduceEqDiff, ↓reduceIte, reduceCtorEq, Int.reduceToNat, Int.reduceAdd, Int.reduceSub, Int.reduceMul]
      exact h0 hX.symm _ hM
  · rw [if_neg (fun h => hk h.1)] at hX
    simp (maxSteps := 1000000) (disch := first | omega | (simp only [sizeAlloc, sizeDrew, sizeSet, sizePut] <;> omega) | fail) only [GS, TT_eq, TTl, Nat.reduceAdd, Nat.reduceMul, Nat.reduceSub, Nat.reduceDiv, Nat.reduceMod, Nat.reducePow, Nat.reduceEqDiff, ↓reduceIte, reduceCtorEq, Int.reduceToNat, Int.reduceAdd, Int.reduceSub, Int.reduceMul]
    refine ⟨fok127, wMust_cps false _ _ (fun h => absurd h (by simp)) (fun _ => .inr ⟨_, rfl, hold_ex okT (rs := [.tmp 6]) rfl ?_⟩)⟩
    simp (maxSteps := 1000000) (disch := first | omega | (simp only [sizeAlloc, sizeDrew, sizeSet, sizePut] <;> omega) | fail) only [GS, TT_eq, TTl, Nat.reduceAdd, Nat.reduceMul, Nat.reduceSub, Nat.reduceDiv, Nat.reduceMod, Nat.reducePow, Nat.reduceEqDiff, ↓reduceIte, reduceCtorEq, Int.reduceToNat, Int.reduceAdd, Int.reduceSub, Int.reduceMul]
    exact h0 hX.symm _ hM1
/-- A transaction's term. -/
def txnS (x : Tx) : List UInt8 × Int := if txB x = true then madeS (114 :: numL 3) [numE x.1, numE x.2.1, numE x.2.2] else ([], 2)
theorem numE_len {v : Int} (h1 : 0 ≤ v) (h2 : v ≤ 2147483647) : (numE v).length ≤ 1034 := by
  unfold numE numS
  rw [if_neg (by omega)]
  exact dataS_len _
theorem wTxn_cps (x : Tx) (w : World) (R : Ending → World → Prop) (hR : ∀ w', Mod [] w w' → R (.returned (stV (txnS x))) w') : Calls Tryz.prog 41 #[txV x] w R := by
  have hMT := wMayTxn_cps x
  obtain ⟨a, b, c⟩ := x
  unfold txnS at hR
  unfold txV at hMT ⊢
  simp only at hR hMT ⊢
  refine calls_go 4000 okT Tryz.func41 rfl (rs := [.tmp 2, .tmp 3]) rfl Tryz.ntmps41 (args := [.agg #[.int .i64 a, .int .i64 b, .int .i64 c]]) ?_
  simp (maxSteps := 1000000) (disch := first | omega | (simp only [sizeAlloc, sizeDrew, sizeSet, sizePut] <;> omega) | fail) only [GS, TT_eq, TTl, Nat.reduceAdd, Nat.reduceMul, Nat.reduceSub, Nat.reduceDiv, Nat.reduceMod, Nat.reducePow, Nat.reduceEqDiff, ↓reduceIte, reduceCtorEq, Int.reduceToNat, Int.reduceAdd, Int.reduceSub, Int.reduceMul]
  have hM := (Mod.refl [] w).alloc (.cells #[.int .i64 a, .int .i64 b, .int .i64 c] 23)
  have hb := heapNew (w := w) (o := .cells #[.int .i64 a, .int .i64 b, .int .i64 c] 23)
  generalize w.alloc (.cells #[.int .i64 a, .int .i64 b, .int .i64 c] 23) = w1 at hM hb ⊢
  generalize w.heap.size = n at *
  refine ⟨fok73, hMT _ _ fun w2 hM2 => .inl ⟨_, rfl, hold_ops okT (rs := [.tmp 2, .tmp 3]) rfl ?_⟩⟩
  have hb2 := hM2.get hb (by simp)
  have hM02 := hM.trans hM2 (by simp)
  cases ht : txB (a, b, c)
  · rw [if_neg (by rw [ht]; simp)] at hR
    simp (maxSteps := 1000000) (disch := first | omega | (simp only [sizeAlloc, sizeDrew, sizeSet, sizePut] <;> omega) | fail) only [GS, TT_eq, TTl, Nat.reduceAdd, Nat.reduceMul, Nat.reduceSub, Nat.reduceDiv, Nat.reduceMod, Nat.reducePow, Nat.reduceEqDiff, ↓reduceIte, reduceCtorEq, Int.reduceToNat, Int.reduceAdd, Int.reduceSub, Int.reduceMul]
    exact hR _ hM02
  · rw [if_pos ht] at hR
    unfold txB at ht
    have ht := of_decide_eq_true ht
    simp only at ht
    have c0 : (w2.drewN 1).cell? ⟨n, 0, none⟩ = some (.int .i64 a) := by show w2.cell? _ = _; rw [cellOf hb2]; rfl
    have c1 : (w2.drewN 1).cell? ⟨n, 1, none⟩ = some (.int .i64 b) := by show w2.cell? _ = _; rw [cellOf hb2]; rfl
    have c2 : (w2.drewN 1).cell? ⟨n, 2, none⟩ = some (.int .i64 c) := by show w2.cell? _ = _; rw [cellOf hb2]; rfl
    have hb3 : (w2.drewN 1).heap[n]? = _ := hb2
    have hM3 := hM02.drewN 1
    simp (maxSteps := 1000000) (disch := first | omega | (simp only [sizeAlloc, sizeDrew, sizeSet, sizePut] <;> omega) | fail) only [GS, TT_eq, TTl, Nat.reduceAdd, Nat.reduceMul, Nat.reduceSub, Nat.reduceDiv, Nat.reduceMod, Nat.reducePow, Nat.reduceEqDiff, ↓reduceIte, reduceCtorEq, Int.reduceToNat, Int.reduceAdd, Int.reduceSub, Int.reduceMul]
    refine hold_draw okT (rs := [.tmp 2, .tmp 3]) rfl [0, 1, 3, 0, 8, 31, 0, 64, 255, 511, 1023, 2047, 2047, 8191, 16383] [0, 1, 3, 4, 6, 7, 2, 5, 8, 9, 10, 11, 12, 13, 14] (by kernel_rfl) (by kernel_rfl) ?_
    generalize w2.drewN 1 = w3 at *
    simp (maxSteps := 1000000) (disch := first | omega | (simp only [sizeAlloc, sizeDrew, sizeSet, sizePut] <;> omega) | fail) only [GS, TT_eq, TTl, Nat.reduceAdd, Nat.reduceMul, Nat.reduceSub, Nat.reduceDiv, Nat.reduceMod, Nat.reducePow, Nat.reduceEqDiff, ↓reduceIte, reduceCtorEq, Int.reduceToNat, Int.reduceAdd, Int.reduceSub, Int.reduceMul, c0, c1, c2]
    refine ⟨fok80, wNum_cps a (by omega) (by omega) _ _ fun w4 hM4 => .inl ⟨_, rfl, ⟨?_, ?_⟩, hold_dops okT (rs := [.tmp 2, .tmp 3]) rfl ?_⟩⟩
    · rw [cellOf (hM4.get hb3 (by simp))]; rfl
    · rw [cellOf (hM4.get hb3 (by simp))]; rfl
    have hb4 := hM4.get hb3 (by simp)
    simp (maxSteps := 1000000) (disch := first | omega | (simp only [sizeAlloc, sizeDrew, sizeSet, sizePut] <;> omega) | fail) only [GS, TT_eq, TTl, Nat.reduceAdd, Nat.reduceMul, Nat.reduceSub, Nat.reduceDiv, Nat.reduceMod, Nat.reducePow, Nat.reduceEqDiff, ↓reduceIte, reduceCtorEq, Int.reduceToNat, Int.reduceAdd, Int.reduceSub, Int.reduceMul]
    refine ⟨fok80, wNum_cps b (by omega) (by omega) _ _ fun w5 hM5 => .inl ⟨_, rfl, ?_, hold_dops okT (rs := [.tmp 2, .tmp 3]) rfl ?_⟩⟩
    · rw [cellOf (hM5.get hb4 (by simp))]; rfl
    simp (maxSteps := 1000000) (disch := first | omega | (simp only [sizeAlloc, sizeDrew, sizeSet, sizePut] <;> omega) | fail) only [GS, TT_eq, TTl, Nat.reduceAdd, Nat.reduceMul, Nat.reduceSub, Nat.reduceDiv, Nat.reduceMod, Nat.reducePow, Nat.reduceEqDiff, ↓reduceIte, reduceCtorEq, Int.reduceToNat, Int.reduceAdd, Int.reduceSub, Int.reduceMul]
    refine ⟨fok80, wNum_cps c (by omega) (by omega) _ _ fun w6 hM6 => .inl ⟨_, rfl, hold_dops okT (rs := [.tmp 2, .tmp 3]) rfl ?_⟩⟩
    have hM06 := ((hM3.trans hM4 (by simp)).trans hM5 (by simp)).trans hM6 (by simp)
    have l1 := numE_len (v := a) (by omega) (by omega)
    have l2 := numE_len (v := b) (by omega) (by omega)
    have l3 := numE_len (v := c) (by omega) (by omega)
    have hrd := Rd.lit (w := w6) (size := 1) (n := 3) (e := 9) (xs := [numE a, numE b, numE c].map strV) rfl
    simp (maxSteps := 1000000) (disch := first | omega | (simp only [sizeAlloc, sizeDrew, sizeSet, sizePut] <;> omega) | fail) only [GS, TT_eq, TTl, Nat.reduceAdd, Nat.reduceMul, Nat.reduceSub, Nat.reduceDiv, Nat.reduceMod, Nat.reducePow, Nat.reduceEqDiff, ↓reduceIte, reduceCtorEq, Int.reduceToNat, Int.reduceAdd, Int.reduceSub, Int.reduceMul]
    refine ⟨fok39, tRow_cps _ [numE a, numE b, numE c] _ _ (by simp) (by simp; omega) hrd fun w7 hM7 => .inl ⟨_, rfl, hold_dops okT (rs := [.tmp 2, .tmp 3]) rfl ?_⟩⟩
    have hM := (hM06.alloc _).trans hM7 (by simp)
    rw [show ([numE a, numE b, numE c] : List (List UInt8)).length = 3 from rfl]
    generalize madeS (114 :: numL 3) [numE a, numE b, numE c] = P at *
    obtain ⟨t, e⟩ := P
    unfold stV
    simp (maxSteps := 1000000) (disch := first | omega | (simp only [sizeAlloc, sizeDrew, sizeSet, sizePut] <;> omega) | fail) only [GS, TT_eq, TTl, Nat.reduceAdd, Nat.reduceMul, Nat.reduceSub, Nat.reduceDiv, Nat.reduceMod, Nat.reducePow, Nat.reduceEqDiff, ↓reduceIte, reduceCtorEq, Int.reduceToNat, Int.reduceAdd, Int.reduceSub, Int.reduceMul]
    exact hR _ hM
/-- The rows of members, as long as they fit. -/
def mbRows : List Mb → Option (List (List UInt8))
  | [] => some []
  | x :: l => if (madeS (114 :: numL 2) [numE x.1, x.2]).2 = 0 then (mbRows l).map ((madeS (114 :: numL 2) [numE x.1, x.2]).1 :: ·) else none
def mbrsS (c : Int) (l : List Mb) : List UInt8 × Int := if mbB c l = true then (match mbRows l with | some r => madeS (114 :: numL r.length) r | none => ([], 5)) else ([], 2)
theorem mbRows_len : ∀ (l : List Mb) (r : List (List UInt8)), mbRows l = some r → r.length = l.length ∧ ∀ s ∈ r, checkS s = 0
  | [], r, h => by simp only [mbRows, Option.some.injEq] at h; subst h; simp
  | x :: l, r, h => by
    simp only [mbRows] at h
    split at h
    · rename_i h0
      obtain ⟨r', h1, rfl⟩ := Option.map_eq_some_iff.1 h
      obtain ⟨h2, h3⟩ := mbRows_len l r' h1
      refine ⟨by simp [h2], fun s hs => ?_⟩
      rcases List.mem_cons.1 hs with rfl | hs
      · exact made_ok (front := 114 :: numL 2) (l := [numE x.1, x.2]) (Prod.ext rfl h0)
      · exact h3 s hs
    · simp at h
theorem mbs_el {c : Int} : ∀ {l : List Mb} {last : Int}, mbsB c last l = true → ∀ m ∈ l, 0 ≤ m.1 ∧ m.1 < 8 ∧ checkS m.2 = 0
  | [], _, _, m, hm => by simp at hm
  | x :: l, last, h, m, hm => by
    rw [mbsB, Bool.and_eq_true] at h
    obtain ⟨h1, h2⟩ := h
    have h1 := of_decide_eq_true h1
    have ho := of_decide_eq_true h1.1
    rcases List.mem_cons.1 hm with rfl | hm
    · exact ⟨ho.1, ho.2, h1.2.2.2⟩
    · exact mbs_el h2 m hm
theorem wMembers_cps (x : Tx) (sa : Value) (l : List Mb) (w : World) (R : Ending → World → Prop) (hl : l.length ≤ 1000000) (hd : ∀ m ∈ l, m.2.length ≤ maxLen) (ha : Rd w 2 sa l.length (l.flatMap mbC)) (hR : ∀ w', Mod [] w w' → R (.returned (stV (mbrsS x.1 l))) w') :
    Calls Tryz.prog 43 #[txV x, sa] w R := by
  have hMM := wMayMembers_cps x sa l
  obtain ⟨a, b, c⟩ := x
  unfold mbrsS at hR
  unfold txV at hMM ⊢
  simp only at hR hMM ⊢
  obtain ⟨la, lc, rfl⟩ := ha.slice
  refine calls_go 4000 okT Tryz.func43 rfl (rs := [.tmp 4, .tmp 5]) rfl Tryz.ntmps43 (args := [.agg #[.int .i64 a, .int .i64 b, .int .i64 c], .slice la l.length lc]) ?_
  simp (maxSteps := 1000000) (disch := first | omega | (simp only [sizeAlloc, sizeDrew, sizeSet, sizePut] <;> omega) | fail) only [GS, TT_eq, TTl, Nat.reduceAdd, Nat.reduceMul, Nat.reduceSub, Nat.reduceDiv, Nat.reduceMod, Nat.reducePow, Nat.reduceEqDiff, ↓reduceIte, reduceCtorEq, Int.reduceToNat, Int.reduceAdd, Int.reduceSub, Int.reduceMul]
  have hM := (Mod.refl [] w).alloc (.cells #[.int .i64 a, .int .i64 b, .int .i64 c] 23)
  have ha1 := ha.mod hM (by simp)
  generalize w.alloc (.cells #[.int .i64 a, .int .i64 b, .int .i64 c] 23) = w1 at hM ha1 ⊢
  refine ⟨fok74, hMM _ _ hl hd ha1 fun w2 hM2 => .inl ⟨_, rfl, hold_ops okT (rs := [.tmp 4, .tmp 5]) rfl ?_⟩⟩
  have hM02 := hM.trans hM2 (by simp)
  have ha2 := ha1.mod hM2 (by simp)
  cases ht : mbB a l
  · rw [if_neg (by rw [ht]; simp)] at hR
    simp (maxSteps := 1000000) (disch := first | omega | (simp only [sizeAlloc, sizeDrew, sizeSet, sizePut] <;> omega) | fail) only [GS, TT_eq, TTl, Nat.reduceAdd, Nat.reduceMul, Nat.reduceSub, Nat.reduceDiv, Nat.reduceMod, Nat.reducePow, Nat.reduceEqDiff, ↓reduceIte, reduceCtorEq, Int.reduceToNat, Int.reduceAdd, Int.reduceSub, Int.reduceMul]
    exact hR _ hM02
  rw [if_pos ht] at hR
  unfold mbB at ht
  rw [Bool.and_eq_true] at ht
  have hel := mbs_el ht.1
  have hl6 := (of_decide_eq_true ht.2).2
  clear ht hMM
  simp (maxSteps := 1000000) (disch := first | omega | (simp only [sizeAlloc, sizeDrew, sizeSet, sizePut] <;> omega) | fail) only [GS, TT_eq, TTl, Nat.reduceAdd, Nat.reduceMul, Nat.reduceSub, Nat.reduceDiv, Nat.reduceMod, Nat.reducePow, Nat.reduceEqDiff, ↓reduceIte, reduceCtorEq, Int.reduceToNat, Int.reduceAdd, Int.reduceSub, Int.reduceMul]
  refine hold_loop okT (rs := [.tmp 4, .tmp 5]) rfl [6, 17] [4, 5, 8, 9, 10, 18, 19, 20, 21, 22, 23, 24, 25, 26, 27, 28, 29, 30, 31, 32, 33, 34, 35, 36, 37] (fun vs w' => ∃ (k : Nat) (sv : Value) (r : List (List UInt8)), vs = [sv, .int .i64 k] ∧ k ≤ l.length ∧ r.length = k ∧ (∀ s ∈ r, checkS s = 0) ∧ mbRows l = (mbRows (l.drop k)).map (r ++ ·) ∧ w'.ownsRow w2.heap.size 9 1 sv r.length (r.map strV) ∧ Mod [] w2 w') (fun vs _ => match vs with | [_, .int _ i] => l.length - i.toNat | _ => 0) (by kernel_rfl) ⟨0, _, [], rfl, by omega, rfl, by simp, by rw [List.drop_zero]; cases mbRows l <;> rfl, World.ownsRow_nil _ _ _ _, Mod.refl _ _⟩ ?_
  rintro vs w3 J ⟨k, sv, r, rfl, hk, hrl, hrc, hX, hown, hM3⟩
  have hrd := ha2.mod hM3 (by simp)
  have hcl := ownsRow_one hown
  obtain ⟨va, vc, rfl⟩ := (Rd.own hown).slice
  by_cases hlt : k < l.length
  · obtain ⟨b1, o1, c1, e1, _, g1⟩ := hrd.at (by omega) (by omega)
    have hfl := fun j hj => flat_get mbC 2 mbC_len l k hlt j hj
    have hme := hel _ (List.getElem_mem hlt)
    rw [List.drop_eq_getElem_cons hlt, mbRows] at hX
    generalize l[k] = m at hfl hme hX
    obtain ⟨mo, md⟩ := m
    rw [Value.slice.injEq] at e1
    obtain ⟨rfl, -, -⟩ := e1
    have d0 : w3.cell? ⟨b1, o1 + k * 2, none⟩ = some (.int .i64 mo) := by rw [← g1 (k * 2) _ (hfl 0 (by omega))]
    have d1 : w3.cell? ⟨b1, o1 + k * 2 + 1, none⟩ = some (.string ⟨md.toArray⟩) := by rw [← g1 (k * 2 + 1) _ (hfl 1 (by omega))]; rfl
    simp only at hX hme
    simp (maxSteps := 1000000) (disch := first | omega | (simp only [sizeAlloc, sizeDrew, sizeSet, sizePut] <;> omega) | fail) only [GS, TT_eq, TTl, Nat.reduceAdd, Nat.reduceMul, Nat.reduceSub, Nat.reduceDiv, Nat.reduceMod, Nat.reducePow, Nat.reduceEqDiff, ↓reduceIte, reduceCtorEq, Int.reduceToNat, Int.reduceAdd, Int.reduceSub, Int.reduceMul, d0, d1]
    have hMx := (((Mod.refl [] w3).alloc (.cells #[.int .i64 0, .string ⟨#[]⟩] 84)).set (p := ⟨w3.heap.size, 0, none⟩) (.inr (Nat.le_refl _)) (.int .i64 mo)).set (p := ⟨w3.heap.size, 1, none⟩) (.inr (Nat.le_refl _)) (.string ⟨md.toArray⟩)
    have hbx := heapSet (o := 1) (v := .string ⟨md.toArray⟩) (heapSet (o := 0) (v := .int .i64 mo) (heapNew (w := w3) (o := .cells #[.int .i64 0, .string ⟨#[]⟩] 84)))
    generalize ((w3.alloc (.cells #[.int .i64 0, .string ⟨#[]⟩] 84)).setCell ⟨w3.heap.size, 0, none⟩ (.int .i64 mo)).setCell ⟨w3.heap.size, 1, none⟩ (.string ⟨md.toArray⟩) = w4 at hMx hbx ⊢
    generalize w3.heap.size = nx at *
    refine hold_draw okT (rs := [.tmp 4, .tmp 5]) rfl [0, 1, 3, 0, 8, 31, 63, 127, 255, 255, 511, 2047] [0, 1, 3, 4, 2, 5, 6, 7, 8, 9, 10, 11] (by kernel_rfl) (by kernel_rfl) ?_
    have hbx4 : (w4.drewN 1).heap[nx]? = _ := hbx
    have hM4 := (hM3.trans hMx (by simp)).drewN 1
    have hown4 := ownsRow_mod hown (hMx.drewN 1) (by simp)
    generalize w4.drewN 1 = w5 at hbx4 hM4 hown4 ⊢
    have d5 : w5.cell? ⟨nx, 0, none⟩ = some (.int .i64 mo) := by rw [cellOf hbx4]; rfl
    have d6 : w5.cell? ⟨nx, 1, none⟩ = some (.string ⟨md.toArray⟩) := by rw [cellOf hbx4]; rfl
    simp (maxSteps := 1000000) (disch := first | omega | (simp only [sizeAlloc, sizeDrew, sizeSet, sizePut] <;> omega) | fail) only [GS, TT_eq, TTl, Nat.reduceAdd, Nat.reduceMul, Nat.reduceSub, Nat.reduceDiv, Nat.reduceMod, Nat.reducePow, Nat.reduceEqDiff, ↓reduceIte, reduceCtorEq, Int.reduceToNat, Int.reduceAdd, Int.reduceSub, Int.reduceMul, d5, d6]
    refine ⟨fok80, wNum_cps mo (by omega) (by omega) _ _ fun w6 hM6 => .inl ⟨_, rfl, ?_, hold_dops okT (rs := [.tmp 4, .tmp 5]) rfl ?_⟩⟩
    · rw [cellOf (hM6.get hbx4 (by simp))]; rfl
    have l1 := numE_len (v := mo) (by omega) (by omega)
    have l2 := (check0 hme.2.2).2.2.1
    have hrd2 := Rd.lit (w := w6) (size := 1) (n := 2) (e := 9) (xs := [numE mo, md].map strV) rfl
    have hown6 := ownsRow_mod hown4 hM6 (by simp)
    have hM06 := hM4.trans hM6 (by simp)
    simp (maxSteps := 1000000) (disch := first | omega | (simp only [sizeAlloc, sizeDrew, sizeSet, sizePut] <;> omega) | fail) only [GS, TT_eq, TTl, Nat.reduceAdd, Nat.reduceMul, Nat.reduceSub, Nat.reduceDiv, Nat.reduceMod, Nat.reducePow, Nat.reduceEqDiff, ↓reduceIte, reduceCtorEq, Int.reduceToNat, Int.reduceAdd, Int.reduceSub, Int.reduceMul]
    refine ⟨fok39, tRow_cps _ [numE mo, md] _ _ (by simp) (by simp; omega) hrd2 fun w7 hM7 => .inl ⟨_, rfl, hold_dops okT (rs := [.tmp 4, .tmp 5]) rfl ?_⟩⟩
    have hM67 := ((Mod.refl [] w6).alloc _).trans hM7 (by simp)
    have hown7 := ownsRow_mod hown6 hM67 (by simp)
    have hM07 := hM06.trans hM67 (by simp)
    rw [show ([numE mo, md] : List (List UInt8)).length = 2 from rfl]
    have hmk := fun h => made_ok (front := 114 :: numL 2) (l := [numE mo, md]) (x := (madeS (114 :: numL 2) [numE mo, md]).1) (Prod.ext rfl h)
    generalize madeS (114 :: numL 2) [numE mo, md] = P at *
    obtain ⟨t, e⟩ := P
    simp only at hX hmk
    unfold stV
    by_cases he : e = 0
    · rw [if_pos he] at hX
      simp (maxSteps := 1000000) (disch := first | omega | (simp only [sizeAlloc, sizeDrew, sizeSet, sizePut] <;> omega) | fail) only [GS, TT_eq, TTl, Nat.reduceAdd, Nat.reduceMul, Nat.reduceSub, Nat.reduceDiv, Nat.reduceMod, Nat.reducePow, Nat.reduceEqDiff, ↓reduceIte, reduceCtorEq, Int.reduceToNat, Int.reduceAdd, Int.reduceSub, Int.reduceMul]
      refine hold_append1 okT rfl rfl rfl rfl rfl w2.heap.size hown7 rfl rfl (u := .string ⟨t.toArray⟩) rfl (by simp only; omega) (by unfold maxLen; omega) hM07.size fun v' w8 hown8 hM8 _ => hold_ops okT (rs := [.tmp 4, .tmp 5]) rfl ?_
      have hob : ∀ y ∈ (Value.slice va r.length vc).ownBlock.toList, w2.heap.size ≤ y := fun y hy => (hown7.lt y (by simpa using hy)).1
      have hM08 := hM07.trans hM8 (fun y hy => .inr (hob y hy))
      simp (maxSteps := 1000000) (disch := first | omega | (simp only [sizeAlloc, sizeDrew, sizeSet, sizePut] <;> omega) | fail) only [GS, TT_eq, TTl, Nat.reduceAdd, Nat.reduceMul, Nat.reduceSub, Nat.reduceDiv, Nat.reduceMod, Nat.reducePow, Nat.reduceEqDiff, ↓reduceIte, reduceCtorEq, Int.reduceToNat, Int.reduceAdd, Int.reduceSub, Int.reduceMul]
      refine ⟨⟨k + 1, _, r ++ [t], rfl, by omega, by rw [List.length_append]; simp; omega, ?_, ?_, ?_, hM08⟩, by omega⟩
      · intro s hs
        rw [List.mem_append, List.mem_singleton] at hs
        rcases hs with hs | rfl
        · exact hrc s hs
        · exact hmk he
      · rw [hX]
        cases mbRows (l.drop (k + 1)) with
        | none => rfl
        | some q => simp
      · rw [List.length_append, List.map_append]
        exact hown8
    · rw [if_neg he] at hX
      rw [hX] at hR
      simp (maxSteps := 1000000) (disch := first | omega | (simp only [sizeAlloc, sizeDrew, sizeSet, sizePut] <;> omega) | fail) only [GS, TT_eq, TTl, Nat.reduceAdd, Nat.reduceMul, Nat.reduceSub, Nat.reduceDiv, Nat.reduceMod, Nat.reducePow, Nat.reduceEqDiff, ↓reduceIte, reduceCtorEq, Int.reduceToNat, Int.reduceAdd, Int.reduceSub, Int.reduceMul]
      exact hR _ (hM02.trans hM07 (by simp))
  · have e : k = l.length := by omega
    subst e
    rw [List.drop_length, mbRows] at hX
    simp only [Option.map_some, List.append_nil] at hX
    rw [hX] at hR
    simp only at hR
    simp (maxSteps := 1000000) (disch := first | omega | (simp only [sizeAlloc, sizeDrew, sizeSet, sizePut] <;> omega) | fail) only [GS, TT_eq, TTl, Nat.reduceAdd, Nat.reduceMul, Nat.reduceSub, Nat.reduceDiv, Nat.reduceMod, Nat.reducePow, Nat.reduceEqDiff, ↓reduceIte, reduceCtorEq, Int.reduceToNat, Int.reduceAdd, Int.reduceSub, Int.reduceMul]
    refine ⟨fok39, tRow_cps _ r _ _ (by omega) (fun s hs => by have := (check0 (hrc s hs)).2.2.1; omega) (Rd.own hown) fun w4 hM4 => .inl ⟨_, rfl, hold_ops okT (rs := [.tmp 4, .tmp 5]) rfl ?_⟩⟩
    have hM := (hM02.trans hM3 (by simp)).trans hM4 (by simp)
    generalize madeS (114 :: numL r.length) r = P at *
    obtain ⟨t, e⟩ := P
    unfold stV
    simp (maxSteps := 1000000) (disch := first | omega | (simp only [sizeAlloc, sizeDrew, sizeSet, sizePut] <;> omega) | fail) only [GS, TT_eq, TTl, Nat.reduceAdd, Nat.reduceMul, Nat.reduceSub, Nat.reduceDiv, Nat.reduceMod, Nat.reducePow, Nat.reduceEqDiff, ↓reduceIte, reduceCtorEq, Int.reduceToNat, Int.reduceAdd, Int.reduceSub, Int.reduceMul]
    exact hR _ hM
theorem parts_ok {S : List UInt8} (h : checkS S = 0) : ∀ p ∈ partsS S, checkS p = 0 := by
  obtain ⟨hd, k, tr⟩ := tr_of h
  rw [tr.parts]
  exact tr.root
theorem rowO_ok {S : List UInt8} {a b : Nat} {l : List (List UInt8)} (h : rowO S a b = some l) : (∀ p ∈ l, checkS p = 0) ∧ a ≤ l.length ∧ l.length ≤ b ∧ l = partsS S ∧ kindS S = 3 := by
  unfold rowO at h
  split at h
  · rename_i hc
    simp only [Option.some.injEq] at h
    subst h
    exact ⟨parts_ok (kind_chk hc.1 (by decide)), hc.2.1, hc.2.2, rfl, hc.1⟩
  · simp at h
/-- The member that a term says. -/
def oneM (s : List UInt8) : Option Mb := match rowO s 2 2 with
  | some l => (numT (l.getD 0 [])).map fun v => ((v : Int), l.getD 1 [])
  | none => none
def unL : List (List UInt8) → Option (List Mb)
  | [] => some []
  | s :: r => match oneM s with
    | some m => (unL r).map (m :: ·)
    | none => none
def unmbS (c : Int) (S : List UInt8) : Option (List Mb) := match rowO S 1 6 with
  | some ps => (match unL ps with
    | some l => if mbB c l = true then some l else none
    | none => none)
  | none => none
theorem wUnmembers_cps (x : Tx) (S : List UInt8) (hS : S.length ≤ maxLen) (w : World) (R : Ending → World → Prop)
    (h1 : ∀ l sv w', unmbS x.1 S = some l → w'.ownsRow w.heap.size 84 2 sv l.length (l.flatMap mbC) → Mod [] w w' → R (.returned sv) w') (h0 : unmbS x.1 S = none → ∀ w', Mod [] w w' → R (.panicked wnoneV) w') :
    Calls Tryz.prog 121 #[txV x, .string ⟨S.toArray⟩] w R := by
  have hMM := wMayMembers_cps x
  obtain ⟨a, b, c⟩ := x
  generalize hX : unmbS a S = X at h1 h0
  unfold unmbS at hX
  unfold txV at hMM ⊢
  simp only at hMM ⊢
  refine calls_go 4000 okT Tryz.func121 rfl (rs := [.tmp 4]) rfl Tryz.ntmps121 (args := [.agg #[.int .i64 a, .int .i64 b, .int .i64 c], .string ⟨S.toArray⟩]) ?_
  simp (maxSteps := 1000000) (disch := first | omega | (simp only [sizeAlloc, sizeDrew, sizeSet, sizePut] <;> omega) | fail) only [GS, TT_eq, TTl, Nat.reduceAdd, Nat.reduceMul, Nat.reduceSub, Nat.reduceDiv, Nat.reduceMod, Nat.reducePow, Nat.reduceEqDiff, ↓reduceIte, reduceCtorEq, Int.reduceToNat, Int.reduceAdd, Int.reduceSub, Int.reduceMul]
  have hM := (Mod.refl [] w).alloc (.cells #[.int .i64 a, .int .i64 b, .int .i64 c] 23)
  have hb := heapNew (w := w) (o := .cells #[.int .i64 a, .int .i64 b, .int .i64 c] 23)
  generalize w.alloc (.cells #[.int .i64 a, .int .i64 b, .int .i64 c] 23) = w1 at hM hb ⊢
  generalize hn : w.heap.size = n at *
  refine ⟨fok139, wRow_cps S 1 6 (by decide) (by decide) hS _ _ (fun ps pv w2 hp hpo hM2 => .inl ⟨_, rfl, hold_ops okT (rs := [.tmp 4]) rfl ?_⟩) (fun hp w2 hM2 => .inr ⟨_, rfl, hold_ex okT (rs := [.tmp 4]) rfl ?_⟩)⟩
  · rw [hp] at hX
    simp only at hX
    obtain ⟨hpc, hp1, hp6, -, -⟩ := rowO_ok hp
    have hM02 := hM.trans hM2 (by simp)
    obtain ⟨pa, pc, rfl⟩ := (Rd.own hpo).slice
    simp (maxSteps := 1000000) (disch := first | omega | (simp only [sizeAlloc, sizeDrew, sizeSet, sizePut] <;> omega) | fail) only [GS, TT_eq, TTl, Nat.reduceAdd, Nat.reduceMul, Nat.reduceSub, Nat.reduceDiv, Nat.reduceMod, Nat.reducePow, Nat.reduceEqDiff, ↓reduceIte, reduceCtorEq, Int.reduceToNat, Int.reduceAdd, Int.reduceSub, Int.reduceMul]
    refine hold_loop okT (rs := [.tmp 4]) rfl [4, 11] [6, 7, 12, 13, 14, 15, 16, 17, 18, 19, 20, 21, 22, 23, 24, 25, 26, 27, 28] (fun vs w' => ∃ (k : Nat) (sv : Value) (r : List Mb), vs = [sv, .int .i64 k] ∧ k ≤ ps.length ∧ r.length = k ∧ (∀ m ∈ r, m.2.length ≤ maxLen) ∧ unL ps = (unL (ps.drop k)).map (r ++ ·) ∧ w'.ownsRow w2.heap.size 84 2 sv r.length (r.flatMap mbC) ∧ Mod [] w2 w') (fun vs _ => match vs with | [_, .int _ i] => ps.length - i.toNat | _ => 0) (by kernel_rfl) ⟨0, _, [], rfl, by omega, rfl, by simp, by rw [List.drop_zero]; cases unL ps <;> rfl, World.ownsRow_nil _ _ _ _, Mod.refl _ _⟩ ?_
    rintro vs w3 J ⟨k, sv, r, rfl, hk, hrl, hrc, hL, hown, hM3⟩
    have hrd := (Rd.own hpo).mod hM3 (by simp)
    have hcl := ownsRow_one hown
    obtain ⟨va, vc, rfl⟩ := (Rd.own hown).slice
    by_cases hlt : k < ps.length
    · obtain ⟨b1, o1, c1, e1, _, g1⟩ := hrd.at (by omega) (by omega)
      have f1 : w3.cell? ⟨b1, o1 + k, none⟩ = some (.string ⟨(ps[k]).toArray⟩) := g1 k _ (getS hlt)
      rw [Value.slice.injEq] at e1
      obtain ⟨rfl, -, -⟩ := e1
      have hsc := hpc _ (List.getElem_mem hlt)
      rw [List.drop_eq_getElem_cons hlt, unL] at hL
      generalize ps[k] = s at *
      have hsl := (check0 hsc).2.2.1
      simp (maxSteps := 1000000) (disch := first | omega | (simp only [sizeAlloc, sizeDrew, sizeSet, sizePut] <;> omega) | fail) only [GS, TT_eq, TTl, Nat.reduceAdd, Nat.reduceMul, Nat.reduceSub, Nat.reduceDiv, Nat.reduceMod, Nat.reducePow, Nat.reduceEqDiff, ↓reduceIte, reduceCtorEq, Int.reduceToNat, Int.reduceAdd, Int.reduceSub, Int.reduceMul, f1]
      unfold oneM at hL
      refine ⟨fok139, wRow_cps s 2 2 (by decide) (by decide) (by unfold maxLen; omega) _ _ (fun q qv w4 hq hqo hM4 => .inl ⟨_, rfl, hold_ops okT (rs := [.tmp 4]) rfl ?_⟩) (fun hq w4 hM4 => .inr ⟨_, rfl, hold_ex okT (rs := [.tmp 4]) rfl ?_⟩)⟩
      · rw [hq] at hL
        simp only at hL
        obtain ⟨hqc, hq1, hq2, -, -⟩ := rowO_ok hq
        obtain ⟨t0, t1, rfl⟩ := len2 (show q.length = 2 by omega)
        simp only [List.getD_cons_zero, List.getD_cons_succ] at hL
        have hM04 := hM3.trans hM4 (by simp)
        have hown4 := ownsRow_mod hown hM4 (by simp)
        have z0 := (check0 (hqc t0 (by simp))).2.2.1
        have z1 := (check0 (hqc t1 (by simp))).2.2.1
        have hqr := Rd.own hqo
        obtain ⟨b2, o2, c2, e2, _, g2⟩ := hqr.at (by omega) (by simp)
        have f2 : w4.cell? ⟨b2, o2, none⟩ = some (.string ⟨t0.toArray⟩) := g2 0 _ rfl
        have f3 : w4.cell? ⟨b2, o2 + 1, none⟩ = some (.string ⟨t1.toArray⟩) := g2 1 _ rfl
        subst e2
        simp (maxSteps := 1000000) (disch := first | omega | (simp only [sizeAlloc, sizeDrew, sizeSet, sizePut] <;> omega) | fail) only [GS, TT_eq, TTl, Nat.reduceAdd, Nat.reduceMul, Nat.reduceSub, Nat.reduceDiv, Nat.reduceMod, Nat.reducePow, Nat.reduceEqDiff, ↓reduceIte, reduceCtorEq, Int.reduceToNat, Int.reduceAdd, Int.reduceSub, Int.reduceMul]
        refine hold_draw okT (rs := [.tmp 4]) rfl [0, 0, 2, 6, 14, 0, 32, 96, 254, 510, 1023, 2047] [0, 1, 2, 3, 5, 6, 7, 4, 8, 9, 10, 11] (by kernel_rfl) (by kernel_rfl) ?_
        have hqr5 : Rd (w4.drewN 1) 1 (.slice (some ⟨b2, o2, none⟩) ([t0, t1] : List (List UInt8)).length c2) ([t0, t1] : List (List UInt8)).length ([t0, t1].map strV) := hqr.mod (Mod.drewN 1 (Mod.refl [] w4)) (by simp)
        have f2' : (w4.drewN 1).cell? ⟨b2, o2, none⟩ = some (.string ⟨t0.toArray⟩) := f2
        have f3' : (w4.drewN 1).cell? ⟨b2, o2 + 1, none⟩ = some (.string ⟨t1.toArray⟩) := f3
        have hM05 := hM04.drewN 1
        have hown5 := ownsRow_mod hown4 (Mod.drewN 1 (Mod.refl [] w4)) (by simp)
        generalize w4.drewN 1 = w5 at *
        simp (maxSteps := 1000000) (disch := first | omega | (simp only [sizeAlloc, sizeDrew, sizeSet, sizePut] <;> omega) | fail) only [GS, TT_eq, TTl, Nat.reduceAdd, Nat.reduceMul, Nat.reduceSub, Nat.reduceDiv, Nat.reduceMod, Nat.reducePow, Nat.reduceEqDiff, ↓reduceIte, reduceCtorEq, Int.reduceToNat, Int.reduceAdd, Int.reduceSub, Int.reduceMul, f2', f3']
        have f3m : ∀ w' : World, Mod [] w5 w' → w'.cell? ⟨b2, o2 + 1, none⟩ = some (.string ⟨t1.toArray⟩) := by
          intro w' hm
          rw [World.cell?_of_block (w := w5) (hm.block b2 (World.block_lt_of_cell? w5 _ f3') (by simp))]
          exact f3'
        refine ⟨fok120, wUnnum_cps t0 (by unfold maxLen; omega) _ _ (fun v w6 hv hM6 => .inl ⟨_, rfl, f3m w6 hM6, hold_dops okT (rs := [.tmp 4]) rfl ?_⟩) (fun hv w6 hM6 => .inr ⟨_, rfl, fun fs' => hold_ex okT (rs := [.tmp 4]) rfl ?_⟩)⟩
        · rw [hv] at hL
          try simp only [Option.map_some] at hL
          have hM06 := hM05.trans hM6 (by simp)
          have hown6 := ownsRow_mod hown5 hM6 (by simp)
          simp (maxSteps := 1000000) (disch := first | omega | (simp only [sizeAlloc, sizeDrew, sizeSet, sizePut] <;> omega) | fail) only [GS, TT_eq, TTl, Nat.reduceAdd, Nat.reduceMul, Nat.reduceSub, Nat.reduceDiv, Nat.reduceMod, Nat.reducePow, Nat.reduceEqDiff, ↓reduceIte, reduceCtorEq, Int.reduceToNat, Int.reduceAdd, Int.reduceSub, Int.reduceMul]
          refine hold_dappendN okT rfl rfl rfl rfl (by decide) w2.heap.size hown6 rfl rfl (news := mbC ((v : Int), t1)) rfl (by decide) (by simp [Value.oneCell', mbC]) (by simp only; omega) (by unfold maxLen; omega) hM06.size fun v' w7 hown7 hM7 _ => ⟨?_, hold_dops okT (rs := [.tmp 4]) rfl ?_⟩
          · simp (maxSteps := 1000000) only [GS, TT_eq, TTl, Nat.reduceAdd, Nat.reduceMul, Nat.reduceSub, Nat.reduceDiv, Nat.reduceMod, Nat.reducePow, Nat.reduceEqDiff, ↓reduceIte, reduceCtorEq, Int.reduceToNat, Int.reduceAdd, Int.reduceSub, Int.reduceMul]
          have hob : ∀ y ∈ (Value.slice va r.length vc).ownBlock.toList, w2.heap.size ≤ y := fun y hy => (hown6.lt y (by simpa using hy)).1
          have hM07 := hM06.trans hM7 (fun y hy => .inr (hob y hy))
          simp (maxSteps := 1000000) (disch := first | omega | (simp only [sizeAlloc, sizeDrew, sizeSet, sizePut] <;> omega) | fail) only [GS, TT_eq, TTl, Nat.reduceAdd, Nat.reduceMul, Nat.reduceSub, Nat.reduceDiv, Nat.reduceMod, Nat.reducePow, Nat.reduceEqDiff, ↓reduceIte, reduceCtorEq, Int.reduceToNat, Int.reduceAdd, Int.reduceSub, Int.reduceMul]
          refine ⟨⟨k + 1, _, r ++ [((v : Int), t1)], rfl, by omega, by rw [List.length_append]; simp; omega, ?_, ?_, ?_, hM07⟩, by omega⟩
          · intro m hm
            rw [List.mem_append, List.mem_singleton] at hm
            rcases hm with hm | rfl
            · exact hrc m hm
            · unfold maxLen; simp only; omega
          · rw [hL]
            cases unL (ps.drop (k + 1)) with
            | none => rfl
            | some q => simp
          · rw [List.length_append, List.flatMap_append, List.flatMap_singleton]
            exact hown7
        · rw [hv] at hL
          try simp only [Option.map_none] at hL
          rw [hL] at hX
          simp (maxSteps := 1000000) (disch := first | omega | (simp only [sizeAlloc, sizeDrew, sizeSet, sizePut] <;> omega) | fail) only [GS, TT_eq, TTl, Nat.reduceAdd, Nat.reduceMul, Nat.reduceSub, Nat.reduceDiv, Nat.reduceMod, Nat.reducePow, Nat.reduceEqDiff, ↓reduceIte, reduceCtorEq, Int.reduceToNat, Int.reduceAdd, Int.reduceSub, Int.reduceMul]
          exact h0 hX.symm _ (hM02.trans (hM05.trans hM6 (by simp)) (by simp))
      · rw [hq] at hL
        simp only [Option.map_none] at hL
        rw [hL] at hX
        simp (maxSteps := 1000000) (disch := first | omega | (simp only [sizeAlloc, sizeDrew, sizeSet, sizePut] <;> omega) | fail) only [GS, TT_eq, TTl, Nat.reduceAdd, Nat.reduceMul, Nat.reduceSub, Nat.reduceDiv, Nat.reduceMod, Nat.reducePow, Nat.reduceEqDiff, ↓reduceIte, reduceCtorEq, Int.reduceToNat, Int.reduceAdd, Int.reduceSub, Int.reduceMul]
        exact h0 hX.symm _ (hM02.trans (hM3.trans hM4 (by simp)) (by simp))
    · have e : k = ps.length := by omega
      subst e
      rw [List.drop_length, unL] at hL
      simp only [Option.map_some, List.append_nil] at hL
      rw [hL] at hX
      simp only at hX
      have hb3 := (hM2.trans hM3 (by simp)).get hb (by simp)
      have d0 : w3.cell? ⟨n, 0, none⟩ = some (.int .i64 a) := by rw [cellOf hb3]; rfl
      have d1 : w3.cell? ⟨n, 1, none⟩ = some (.int .i64 b) := by rw [cellOf hb3]; rfl
      have d2 : w3.cell? ⟨n, 2, none⟩ = some (.int .i64 c) := by rw [cellOf hb3]; rfl
      have hM03 := hM02.trans hM3 (by simp)
      simp (maxSteps := 1000000) (disch := first | omega | (simp only [sizeAlloc, sizeDrew, sizeSet, sizePut] <;> omega) | fail) only [GS, TT_eq, TTl, Nat.reduceAdd, Nat.reduceMul, Nat.reduceSub, Nat.reduceDiv, Nat.reduceMod, Nat.reducePow, Nat.reduceEqDiff, ↓reduceIte, reduceCtorEq, Int.reduceToNat, Int.reduceAdd, Int.reduceSub, Int.reduceMul, d0, d1, d2]
      refine ⟨fok74, hMM _ r _ _ (by omega) hrc (Rd.own hown) fun w4 hM4 => .inl ⟨_, rfl, hold_ops okT (rs := [.tmp 4]) rfl ?_⟩⟩
      have hM04 := hM03.trans hM4 (by simp)
      cases hb : mbB a r
      · rw [if_neg (by rw [hb]; simp)] at hX
        simp (maxSteps := 1000000) (disch := first | omega | (simp only [sizeAlloc, sizeDrew, sizeSet, sizePut] <;> omega) | fail) only [GS, TT_eq, TTl, Nat.reduceAdd, Nat.reduceMul, Nat.reduceSub, Nat.reduceDiv, Nat.reduceMod, Nat.reducePow, Nat.reduceEqDiff, ↓reduceIte, reduceCtorEq, Int.reduceToNat, Int.reduceAdd, Int.reduceSub, Int.reduceMul]
        refine ⟨fok127, wMust_cps false _ _ (fun h => absurd h (by simp)) (fun _ => .inr ⟨_, rfl, hold_ex okT (rs := [.tmp 4]) rfl ?_⟩)⟩
        simp (maxSteps := 1000000) (disch := first | omega | (simp only [sizeAlloc, sizeDrew, sizeSet, sizePut] <;> omega) | fail) only [GS, TT_eq, TTl, Nat.reduceAdd, Nat.reduceMul, Nat.reduceSub, Nat.reduceDiv, Nat.reduceMod, Nat.reducePow, Nat.reduceEqDiff, ↓reduceIte, reduceCtorEq, Int.reduceToNat, Int.reduceAdd, Int.reduceSub, Int.reduceMul]
        exact h0 hX.symm _ hM04
      · rw [if_pos hb] at hX
        simp (maxSteps := 1000000) (disch := first | omega | (simp only [sizeAlloc, sizeDrew, sizeSet, sizePut] <;> omega) | fail) only [GS, TT_eq, TTl, Nat.reduceAdd, Nat.reduceMul, Nat.reduceSub, Nat.reduceDiv, Nat.reduceMod, Nat.reducePow, Nat.reduceEqDiff, ↓reduceIte, reduceCtorEq, Int.reduceToNat, Int.reduceAdd, Int.reduceSub, Int.reduceMul]
        refine ⟨fok127, wMust_cps true _ _ (fun _ => .inl ⟨_, rfl, hold_ops okT (rs := [.tmp 4]) rfl ?_⟩) (fun h => absurd h (by simp))⟩
        simp (maxSteps := 1000000) (disch := first | omega | (simp only [sizeAlloc, sizeDrew, sizeSet, sizePut] <;> omega) | fail) only [GS, TT_eq, TTl, Nat.reduceAdd, Nat.reduceMul, Nat.reduceSub, Nat.reduceDiv, Nat.reduceMod, Nat.reducePow, Nat.reduceEqDiff, ↓reduceIte, reduceCtorEq, Int.reduceToNat, Int.reduceAdd, Int.reduceSub, Int.reduceMul]
        have hsz := hM02.size
        exact h1 r _ _ hX.symm (ownsRow_base (ownsRow_mod hown hM4 (by simp)) (by omega)) hM04
  · rw [hp] at hX
    simp (maxSteps := 1000000) (disch := first | omega | (simp only [sizeAlloc, sizeDrew, sizeSet, sizePut] <;> omega) | fail) only [GS, TT_eq, TTl, Nat.reduceAdd, Nat.reduceMul, Nat.reduceSub, Nat.reduceDiv, Nat.reduceMod, Nat.reducePow, Nat.reduceEqDiff, ↓reduceIte, reduceCtorEq, Int.reduceToNat, Int.reduceAdd, Int.reduceSub, Int.reduceMul]
    exact h0 hX.symm _ (hM.trans hM2 (by simp))
theorem wtryD_ret (p : Value) (w : World) (R : Ending → FrameMode → World → Prop) (hR : R (.returned (.tuple #[])) .returning w) :
    CallsR Tryz.prog 138 #[p] .returning w R := by
  refine callsDIn_of_wpSIn Tryz.func138 rfl (by trivial) fun c₀ cs hu => ?_
  apply wpSIn_seq
  apply wpSIn_region
  simp [wpOpsSIn, go_sem, recoverD, hu, Tryz.ntmps138, Exit.thenS]
  have e : c₀ = { c₀ with mode := .returning } := by cases c₀; simp only at hu; subst hu; rfl
  rw [e]
  refine wpS_go (fs := [p, .nilIface, undef, undef, .nilIface, undef, undef, undef, undef, undef, undef, undef, undef, undef, undef]) okT (rs := []) rfl ?_
  simp (maxSteps := 1000000) (disch := first | omega | (simp only [sizeAlloc, sizeDrew, sizeSet, sizePut] <;> omega) | fail) only [GS, TT_eq, TTl, Nat.reduceAdd, Nat.reduceMul, Nat.reduceSub, Nat.reduceDiv, Nat.reduceMod, Nat.reducePow, Nat.reduceEqDiff, ↓reduceIte, reduceCtorEq, Int.reduceToNat, Int.reduceAdd, Int.reduceSub, Int.reduceMul]
  unfold recEnd
  simp (maxSteps := 1000000) (disch := first | omega | (simp only [sizeAlloc, sizeDrew, sizeSet, sizePut] <;> omega) | fail) only [GS, TT_eq, TTl, Nat.reduceAdd, Nat.reduceMul, Nat.reduceSub, Nat.reduceDiv, Nat.reduceMod, Nat.reducePow, Nat.reduceEqDiff, ↓reduceIte, reduceCtorEq, Int.reduceToNat, Int.reduceAdd, Int.reduceSub, Int.reduceMul]
  exact hR
def wnoneD : List PanicEntry := [{ v := .iface 234 (.agg #[]), recovered := true }]
theorem wtryD_pan (a : Nat) (x : Value) (ta : Nat) (w : World) (hA : w.heap[a]? = some (.cells #[x] ta (0, 0))) (R : Ending → FrameMode → World → Prop)
    (hR : ∀ w', w'.heap[a]? = some (.cells #[.bool false] ta (0, 0)) → Mod [a] w w' → R (.returned (.tuple #[])) (.panicking wnoneD) w') :
    CallsR Tryz.prog 138 #[.pointer (some ⟨a, 0, none⟩)] (.panicking wnoneV) w R := by
  refine callsDIn_of_wpSIn Tryz.func138 rfl (by trivial) fun c₀ cs hu => ?_
  apply wpSIn_seq
  apply wpSIn_region
  unfold wnoneV at hu
  simp [wpOpsSIn, go_sem, recoverD, hu, Tryz.ntmps138, Exit.thenS]
  refine wpS_go (u := .panicking wnoneD) (fs := [.pointer (some ⟨a, 0, none⟩), .iface 234 (.agg #[]), undef, undef, .iface 234 (.agg #[]), undef, undef, undef, undef, undef, undef, undef, undef, undef, undef]) okT (rs := []) rfl ?_
  have hA1 : (w.alloc (.cells #[] 234)).heap[a]? = _ := heapAlloc hA
  have hca : (w.alloc (.cells #[] 234)).cell? ⟨a, 0, none⟩ = some x := by rw [cellOf hA1]; rfl
  have hfa := frozenOf (o := 0) hA1
  simp (maxSteps := 1000000) (disch := first | omega | (simp only [sizeAlloc, sizeDrew, sizeSet, sizePut] <;> omega) | fail) only [GS, TT_eq, TTl, Nat.reduceAdd, Nat.reduceMul, Nat.reduceSub, Nat.reduceDiv, Nat.reduceMod, Nat.reducePow, Nat.reduceEqDiff, ↓reduceIte, reduceCtorEq, Int.reduceToNat, Int.reduceAdd, Int.reduceSub, Int.reduceMul, hca, hfa]
  unfold recEnd
  simp (maxSteps := 1000000) (disch := first | omega | (simp only [sizeAlloc, sizeDrew, sizeSet, sizePut] <;> omega) | fail) only [GS, TT_eq, TTl, Nat.reduceAdd, Nat.reduceMul, Nat.reduceSub, Nat.reduceDiv, Nat.reduceMod, Nat.reducePow, Nat.reduceEqDiff, ↓reduceIte, reduceCtorEq, Int.reduceToNat, Int.reduceAdd, Int.reduceSub, Int.reduceMul]
  exact hR _ (heapSet hA1) (((Mod.refl _ _).alloc _).set (p := ⟨a, 0, none⟩) (.inl (by simp)) _)
theorem wTry_cps (g : Nat) (cap : Array Value) (hg : FOk Tryz.prog g) (w : World) (R : Ending → World → Prop) (A B : World → Prop)
    (hdo : Calls Tryz.prog g cap (w.alloc (.cells #[.bool false] 4)) (fun e w' => (e = .returned (.tuple #[]) ∧ A w' ∨ e = .panicked wnoneV ∧ B w') ∧ w'.heap[w.heap.size]? = some (.cells #[.bool false] 4 (0, 0)) ∧ w.heap.size + 1 ≤ w'.heap.size))
    (hA : ∀ w1 w2, A w1 → Mod [w.heap.size] w1 w2 → R (.returned (.bool true)) w2) (hB : ∀ w1 w2, B w1 → Mod [w.heap.size] w1 w2 → R (.returned (.bool false)) w2) :
    Calls Tryz.prog 96 #[.func (.func g) #[] cap] w R := by
  refine calls_go 4000 okT Tryz.func96 rfl (rs := [.cell 2 4]) rfl Tryz.ntmps96 (args := [.func (.func g) #[] cap]) ?_
  simp (maxSteps := 1000000) (disch := first | omega | (simp only [sizeAlloc, sizeDrew, sizeSet, sizePut] <;> omega) | fail) only [GS, TT_eq, TTl, Nat.reduceAdd, Nat.reduceMul, Nat.reduceSub, Nat.reduceDiv, Nat.reduceMod, Nat.reducePow, Nat.reduceEqDiff, ↓reduceIte, reduceCtorEq, Int.reduceToNat, Int.reduceAdd, Int.reduceSub, Int.reduceMul]
  refine hold_defer rfl rfl (hold_ops okT (rs := [.cell 2 4]) rfl ?_)
  simp (maxSteps := 1000000) (disch := first | omega | (simp only [sizeAlloc, sizeDrew, sizeSet, sizePut] <;> omega) | fail) only [GS, TT_eq, TTl, Nat.reduceAdd, Nat.reduceMul, Nat.reduceSub, Nat.reduceDiv, Nat.reduceMod, Nat.reducePow, Nat.reduceEqDiff, ↓reduceIte, reduceCtorEq, Int.reduceToNat, Int.reduceAdd, Int.reduceSub, Int.reduceMul]
  rw [Array.toArray_toList]
  generalize hn : w.heap.size = n at *
  refine ⟨hg, callW_any hdo ?_⟩
  rintro e w1 ⟨⟨rfl, hA1⟩ | ⟨rfl, hB1⟩, hc, hsz⟩
  · refine .inl ⟨_, rfl, hold_ops okT (rs := [.cell 2 4]) rfl ?_⟩
    have c1 : w1.cell? ⟨n, 0, none⟩ = some (.bool false) := by rw [cellOf hc]; rfl
    have z1 := frozenOf (o := 0) hc
    simp (maxSteps := 1000000) (disch := first | omega | (simp only [sizeAlloc, sizeDrew, sizeSet, sizePut] <;> omega) | fail) only [GS, TT_eq, TTl, Nat.reduceAdd, Nat.reduceMul, Nat.reduceSub, Nat.reduceDiv, Nat.reduceMod, Nat.reducePow, Nat.reduceEqDiff, ↓reduceIte, reduceCtorEq, Int.reduceToNat, Int.reduceAdd, Int.reduceSub, Int.reduceMul, c1, z1]
    refine hold_leave (rs := [.cell 2 4]) okT rfl fok138 (.inr (.inl rfl)) (wtryD_ret _ _ _ (.inl ⟨_, rfl, ?_⟩))
    show lastW TT [.cell 2 4] R _ .returning _
    have hs1 := heapSet (v := .bool true) (o := 0) hc
    have hM := (Mod.refl [n] w1).set (p := ⟨n, 0, none⟩) (.inl (by simp)) (.bool true)
    generalize w1.setCell ⟨n, 0, none⟩ (.bool true) = w2 at hs1 hM ⊢
    have c2 : w2.cell? ⟨n, 0, none⟩ = some (.bool true) := by rw [cellOf hs1]; rfl
    simp (maxSteps := 1000000) (disch := first | omega | (simp only [sizeAlloc, sizeDrew, sizeSet, sizePut] <;> omega) | fail) only [GS, TT_eq, TTl, Nat.reduceAdd, Nat.reduceMul, Nat.reduceSub, Nat.reduceDiv, Nat.reduceMod, Nat.reducePow, Nat.reduceEqDiff, ↓reduceIte, reduceCtorEq, Int.reduceToNat, Int.reduceAdd, Int.reduceSub, Int.reduceMul, lastW_ret]
    show ∃ v, w2.cell? ⟨n, 0, none⟩ = some v ∧ R (.returned v) w2
    exact ⟨_, c2, hA _ _ hA1 hM⟩
  · refine .inr ⟨_, rfl, hold_ex okT (rs := [.cell 2 4]) rfl ?_⟩
    simp (maxSteps := 1000000) (disch := first | omega | (simp only [sizeAlloc, sizeDrew, sizeSet, sizePut] <;> omega) | fail) only [GS, TT_eq, TTl, Nat.reduceAdd, Nat.reduceMul, Nat.reduceSub, Nat.reduceDiv, Nat.reduceMod, Nat.reducePow, Nat.reduceEqDiff, ↓reduceIte, reduceCtorEq, Int.reduceToNat, Int.reduceAdd, Int.reduceSub, Int.reduceMul]
    refine hold_leave (rs := [.cell 2 4]) okT rfl fok138 (.inr (.inr ⟨_, rfl⟩)) (wtryD_pan n _ _ _ hc _ fun w2 hc2 hM => .inl ⟨_, rfl, ?_⟩)
    have c2 : w2.cell? ⟨n, 0, none⟩ = some (.bool false) := by rw [cellOf hc2]; rfl
    show lastW TT [.cell 2 4] R _ .returning w2
    simp (maxSteps := 1000000) (disch := first | omega | (simp only [sizeAlloc, sizeDrew, sizeSet, sizePut] <;> omega) | fail) only [GS, TT_eq, TTl, Nat.reduceAdd, Nat.reduceMul, Nat.reduceSub, Nat.reduceDiv, Nat.reduceMod, Nat.reducePow, Nat.reduceEqDiff, ↓reduceIte, reduceCtorEq, Int.reduceToNat, Int.reduceAdd, Int.reduceSub, Int.reduceMul, lastW_ret]
    show ∃ v, w2.cell? ⟨n, 0, none⟩ = some v ∧ R (.returned v) w2
    exact ⟨_, c2, hB _ _ hB1 hM⟩
end Go.Proofs.YtdflchgfhmjhbaaGreatDoor
