/-
  chirographref12.Same (walk). chirographlaw12: long, own (walks). chirographlaw12.alive (walk).
-/
import Derived.Test.YtpcilobbohokcaaGreatWrdW4
import Derived.Test.YtpcilobbohokcaaGreatWrdW2
import Derived.Test.YtpcilobbohokcaaGreatWrdW5
set_option linter.unusedSimpArgs false
set_option linter.unusedVariables false
set_option maxRecDepth 20000
namespace Go.Proofs.YtpcilobbohokcaaGreat
open Go Go.Wk Go.RowKit
attribute [local irreducible] go Hold
open Go.Lib
/-- The same message. -/
def SameP (m n : Msg) : Prop := m.k = n.k ∧ m.tx = n.tx ∧ m.aud = n.aud ∧ m.mbs = n.mbs ∧ m.body = n.body ∧ m.yes = n.yes ∧ m.tag = n.tag
instance (m n : Msg) : Decidable (SameP m n) := inferInstanceAs (Decidable (_ ∧ _))
theorem same_iff (m n : Msg) : SameP m n ↔ m = n := by
  obtain ⟨k, tx, aud, mbs, body, yes, tag⟩ := m
  obtain ⟨k2, tx2, aud2, mbs2, body2, yes2, tag2⟩ := n
  unfold SameP
  simp only [Msg.mk.injEq]
set_option maxRecDepth 20000 in
set_option maxHeartbeats 16000000 in
theorem Same12_cps (m n : Msg) (sa sb : Value) (w : World) (R : Ending → World → Prop) (hl : m.mbs.length ≤ 1000000) (ha : Rd w 2 sa m.mbs.length (m.mbs.flatMap mbC)) (hb : Rd w 2 sb n.mbs.length (n.mbs.flatMap mbC))
    (hR : ∀ w', Mod [] w w' → R (.returned (.bool (decide (SameP m n)))) w') : Calls Tryz.prog 21 #[msgV m sa, msgV n sb] w R := by
  have hR2 : ∀ b : Bool, (b = true ↔ SameP m n) → ∀ w', Mod [] w w' → R (.returned (.bool b)) w' := fun b hb w' hM => by
    have : b = decide (SameP m n) := by
      by_cases h : SameP m n
      · rw [decide_eq_true h]; exact hb.2 h
      · rw [decide_eq_false h]; cases b
        · rfl
        · exact absurd (hb.1 rfl) h
    rw [this]; exact hR w' hM
  clear hR
  obtain ⟨k, ⟨a, b, c⟩, aud, mbs, body, yes, tag⟩ := m
  obtain ⟨k2, ⟨a2, b2, c2⟩, aud2, mbs2, body2, yes2, tag2⟩ := n
  unfold msgV msgC
  simp only at hl ha hb ⊢
  have hbn : ∀ x y : Bool, bnd x (bnd y false) = false := by decide
  have hbm : ∀ x : Bool, bnd x false = false := by decide
  refine calls_go 4000 okT Tryz.func21 rfl (rs := [.tmp 4]) rfl Tryz.ntmps21 (args := [.agg #[.int .u8 k, .int .i64 a, .int .i64 b, .int .i64 c, .int .i64 aud, sa, .string ⟨body.toArray⟩, .bool yes, .string ⟨tag.toArray⟩], .agg #[.int .u8 k2, .int .i64 a2, .int .i64 b2, .int .i64 c2, .int .i64 aud2, sb, .string ⟨body2.toArray⟩, .bool yes2, .string ⟨tag2.toArray⟩]]) ?_
  simp (maxSteps := 1000000) (disch := first | omega | (simp only [sizeAlloc, sizeDrew, sizeSet, sizePut] <;> omega) | fail) only [GS, TT_eq, TTl, Nat.reduceAdd, Nat.reduceMul, Nat.reduceSub, Nat.reduceDiv, Nat.reduceMod, Nat.reducePow, Nat.reduceEqDiff, ↓reduceIte, reduceCtorEq, Int.reduceToNat, Int.reduceAdd, Int.reduceSub, Int.reduceMul]
  have hM0 := ((Mod.refl [] w).alloc (.cells #[.int .u8 k, .int .i64 a, .int .i64 b, .int .i64 c, .int .i64 aud, sa, .string ⟨body.toArray⟩, .bool yes, .string ⟨tag.toArray⟩] 35)).alloc (.cells #[.int .u8 k2, .int .i64 a2, .int .i64 b2, .int .i64 c2, .int .i64 aud2, sb, .string ⟨body2.toArray⟩, .bool yes2, .string ⟨tag2.toArray⟩] 35)
  have hA := heapAlloc (o' := (.cells #[.int .u8 k2, .int .i64 a2, .int .i64 b2, .int .i64 c2, .int .i64 aud2, sb, .string ⟨body2.toArray⟩, .bool yes2, .string ⟨tag2.toArray⟩] 35)) (heapNew (w := w) (o := (.cells #[.int .u8 k, .int .i64 a, .int .i64 b, .int .i64 c, .int .i64 aud, sa, .string ⟨body.toArray⟩, .bool yes, .string ⟨tag.toArray⟩] 35)))
  have hB := heapNew (w := w.alloc (.cells #[.int .u8 k, .int .i64 a, .int .i64 b, .int .i64 c, .int .i64 aud, sa, .string ⟨body.toArray⟩, .bool yes, .string ⟨tag.toArray⟩] 35)) (o := (.cells #[.int .u8 k2, .int .i64 a2, .int .i64 b2, .int .i64 c2, .int .i64 aud2, sb, .string ⟨body2.toArray⟩, .bool yes2, .string ⟨tag2.toArray⟩] 35))
  rw [sizeAlloc] at hB
  generalize (w.alloc (.cells #[.int .u8 k, .int .i64 a, .int .i64 b, .int .i64 c, .int .i64 aud, sa, .string ⟨body.toArray⟩, .bool yes, .string ⟨tag.toArray⟩] 35)).alloc (.cells #[.int .u8 k2, .int .i64 a2, .int .i64 b2, .int .i64 c2, .int .i64 aud2, sb, .string ⟨body2.toArray⟩, .bool yes2, .string ⟨tag2.toArray⟩] 35) = w1 at hM0 hA hB ⊢
  generalize hn : w.heap.size = n at *
  have cA := fun o => cellOf (o := o) hA
  have cB := fun o => cellOf (o := o) hB
  by_cases h_k : k = k2
  rotate_left
  · simp (maxSteps := 1000000) (disch := first | omega | (simp only [sizeAlloc, sizeDrew, sizeSet, sizePut] <;> omega) | fail) only [GS, TT_eq, TTl, Nat.reduceAdd, Nat.reduceMul, Nat.reduceSub, Nat.reduceDiv, Nat.reduceMod, Nat.reducePow, Nat.reduceEqDiff, ↓reduceIte, reduceCtorEq, Int.reduceToNat, Int.reduceAdd, Int.reduceSub, Int.reduceMul, cA, cB, h_k]
    exact hR2 false ⟨fun h => by simp at h, fun e => absurd (e.1) h_k⟩ _ hM0
  subst h_k
  by_cases h_a : a = a2
  rotate_left
  · simp (maxSteps := 1000000) (disch := first | omega | (simp only [sizeAlloc, sizeDrew, sizeSet, sizePut] <;> omega) | fail) only [GS, TT_eq, TTl, Nat.reduceAdd, Nat.reduceMul, Nat.reduceSub, Nat.reduceDiv, Nat.reduceMod, Nat.reducePow, Nat.reduceEqDiff, ↓reduceIte, reduceCtorEq, Int.reduceToNat, Int.reduceAdd, Int.reduceSub, Int.reduceMul, cA, cB, h_a, eq_self]
    exact hR2 false ⟨fun h => by simp at h, fun e => absurd (congrArg (·.1) e.2.1) h_a⟩ _ hM0
  subst h_a
  by_cases h_b : b = b2
  rotate_left
  · simp (maxSteps := 1000000) (disch := first | omega | (simp only [sizeAlloc, sizeDrew, sizeSet, sizePut] <;> omega) | fail) only [GS, TT_eq, TTl, Nat.reduceAdd, Nat.reduceMul, Nat.reduceSub, Nat.reduceDiv, Nat.reduceMod, Nat.reducePow, Nat.reduceEqDiff, ↓reduceIte, reduceCtorEq, Int.reduceToNat, Int.reduceAdd, Int.reduceSub, Int.reduceMul, cA, cB, h_b, eq_self]
    exact hR2 false ⟨fun h => by simp at h, fun e => absurd (congrArg (·.2.1) e.2.1) h_b⟩ _ hM0
  subst h_b
  by_cases h_c : c = c2
  rotate_left
  · simp (maxSteps := 1000000) (disch := first | omega | (simp only [sizeAlloc, sizeDrew, sizeSet, sizePut] <;> omega) | fail) only [GS, TT_eq, TTl, Nat.reduceAdd, Nat.reduceMul, Nat.reduceSub, Nat.reduceDiv, Nat.reduceMod, Nat.reducePow, Nat.reduceEqDiff, ↓reduceIte, reduceCtorEq, Int.reduceToNat, Int.reduceAdd, Int.reduceSub, Int.reduceMul, cA, cB, h_c, eq_self]
    exact hR2 false ⟨fun h => by simp at h, fun e => absurd (congrArg (·.2.2) e.2.1) h_c⟩ _ hM0
  subst h_c
  by_cases h_aud : aud = aud2
  rotate_left
  · simp (maxSteps := 1000000) (disch := first | omega | (simp only [sizeAlloc, sizeDrew, sizeSet, sizePut] <;> omega) | fail) only [GS, TT_eq, TTl, Nat.reduceAdd, Nat.reduceMul, Nat.reduceSub, Nat.reduceDiv, Nat.reduceMod, Nat.reducePow, Nat.reduceEqDiff, ↓reduceIte, reduceCtorEq, Int.reduceToNat, Int.reduceAdd, Int.reduceSub, Int.reduceMul, cA, cB, h_aud, eq_self]
    exact hR2 false ⟨fun h => by simp at h, fun e => absurd (e.2.2.1) h_aud⟩ _ hM0
  subst h_aud
  simp (maxSteps := 1000000) (disch := first | omega | (simp only [sizeAlloc, sizeDrew, sizeSet, sizePut] <;> omega) | fail) only [GS, TT_eq, TTl, Nat.reduceAdd, Nat.reduceMul, Nat.reduceSub, Nat.reduceDiv, Nat.reduceMod, Nat.reducePow, Nat.reduceEqDiff, ↓reduceIte, reduceCtorEq, Int.reduceToNat, Int.reduceAdd, Int.reduceSub, Int.reduceMul, cA, cB, eq_self]
  refine ⟨fok50, SameM_cps sa sb mbs mbs2 _ _ hl (ha.mod hM0 (by simp)) (hb.mod hM0 (by simp)) fun w2 hM2 => .inl ⟨_, rfl, hold_ops okT (rs := [.tmp 4]) rfl ?_⟩⟩
  have hA2 := hM2.get hA (by simp)
  have hB2 := hM2.get hB (by simp)
  have hM02 := hM0.trans hM2 (by simp)
  have dA := fun o => cellOf (o := o) hA2
  have dB := fun o => cellOf (o := o) hB2
  by_cases hm : mbs = mbs2
  rotate_left
  · rw [decide_eq_false hm]
    have hF := hR2 false ⟨fun h => by simp at h, fun e => absurd e.2.2.2.1 hm⟩ _ hM02
    simp (maxSteps := 1000000) (disch := first | omega | (simp only [sizeAlloc, sizeDrew, sizeSet, sizePut] <;> omega) | fail) only [GS, TT_eq, TTl, Nat.reduceAdd, Nat.reduceMul, Nat.reduceSub, Nat.reduceDiv, Nat.reduceMod, Nat.reducePow, Nat.reduceEqDiff, ↓reduceIte, reduceCtorEq, Int.reduceToNat, Int.reduceAdd, Int.reduceSub, Int.reduceMul]
    exact hF
  rw [decide_eq_true hm]
  by_cases hbd : body = body2
  rotate_left
  · have hF := hR2 false ⟨fun h => by simp at h, fun e => absurd e.2.2.2.2.1 hbd⟩ _ hM02
    simp (maxSteps := 1000000) (disch := first | omega | (simp only [sizeAlloc, sizeDrew, sizeSet, sizePut] <;> omega) | fail) only [GS, TT_eq, TTl, Nat.reduceAdd, Nat.reduceMul, Nat.reduceSub, Nat.reduceDiv, Nat.reduceMod, Nat.reducePow, Nat.reduceEqDiff, ↓reduceIte, reduceCtorEq, Int.reduceToNat, Int.reduceAdd, Int.reduceSub, Int.reduceMul, dA, dB, hbd]
    exact hF
  subst hbd
  by_cases hy : yes = yes2
  rotate_left
  · have hF := hR2 false ⟨fun h => by simp at h, fun e => absurd e.2.2.2.2.2.1 hy⟩ _ hM02
    have hy2 : beq2 yes yes2 = false := by revert hy; cases yes <;> cases yes2 <;> simp [beq2, bnot]
    simp (maxSteps := 1000000) (disch := first | omega | (simp only [sizeAlloc, sizeDrew, sizeSet, sizePut] <;> omega) | fail) only [GS, TT_eq, TTl, Nat.reduceAdd, Nat.reduceMul, Nat.reduceSub, Nat.reduceDiv, Nat.reduceMod, Nat.reducePow, Nat.reduceEqDiff, ↓reduceIte, reduceCtorEq, Int.reduceToNat, Int.reduceAdd, Int.reduceSub, Int.reduceMul, dA, dB, hy2]
    exact hF
  subst hy
  have hy2 : beq2 yes yes = true := by cases yes <;> rfl
  by_cases ht : tag = tag2
  rotate_left
  · have hF := hR2 false ⟨fun h => by simp at h, fun e => absurd e.2.2.2.2.2.2 ht⟩ _ hM02
    simp (maxSteps := 1000000) (disch := first | omega | (simp only [sizeAlloc, sizeDrew, sizeSet, sizePut] <;> omega) | fail) only [GS, TT_eq, TTl, Nat.reduceAdd, Nat.reduceMul, Nat.reduceSub, Nat.reduceDiv, Nat.reduceMod, Nat.reducePow, Nat.reduceEqDiff, ↓reduceIte, reduceCtorEq, Int.reduceToNat, Int.reduceAdd, Int.reduceSub, Int.reduceMul, dA, dB, ht, hy2, eq_self]
    exact hF
  subst ht
  simp (maxSteps := 1000000) (disch := first | omega | (simp only [sizeAlloc, sizeDrew, sizeSet, sizePut] <;> omega) | fail) only [GS, TT_eq, TTl, Nat.reduceAdd, Nat.reduceMul, Nat.reduceSub, Nat.reduceDiv, Nat.reduceMod, Nat.reducePow, Nat.reduceEqDiff, ↓reduceIte, reduceCtorEq, Int.reduceToNat, Int.reduceAdd, Int.reduceSub, Int.reduceMul, dA, dB, hy2, eq_self]
  exact hR2 true ⟨fun _ => ⟨rfl, rfl, rfl, hm, rfl, rfl, rfl⟩, fun _ => rfl⟩ _ hM02
end Go.Proofs.YtpcilobbohokcaaGreat
set_option linter.unusedSimpArgs false
set_option linter.unusedVariables false
set_option maxRecDepth 20000
namespace Go.Proofs.YtpcilobbohokcaaGreat
open Go Go.Wk Go.RowKit
attribute [local irreducible] go Hold
open Go.Lib
end Go.Proofs.YtpcilobbohokcaaGreat
set_option linter.unusedSimpArgs false
set_option linter.unusedVariables false
set_option maxRecDepth 20000
namespace Go.Proofs.YtpcilobbohokcaaGreat
open Go Go.Wk Go.RowKit
attribute [local irreducible] go Hold
open Go.Lib
def M6 : Msg := ⟨6, (0, 0, 0), 0, [], [], false, []⟩
def B6 : List UInt8 := [114, 1, 100, 5, 104, 101, 108, 108, 111]
def M4 : Msg := ⟨4, (0, 1, 2), 0, [], [], false, []⟩
def B4 : List UInt8 := [114, 2, 100, 3, 97, 99, 107, 114, 3, 100, 1, 0, 100, 1, 1, 100, 1, 2]
def M2 : Msg := ⟨2, (0, 1, 2), 0, [], [], false, B6⟩
theorem al6 : encS 6 M6 = (B6, 0) := by decide +kernel
theorem al4 : encS 4 M4 = (B4, 0) := by decide +kernel
theorem al2 : encS 2 M2 = ([], 2) := by decide +kernel
theorem ald : decO B4 = some M4 := dec_enc (k := 4) rfl al4
theorem alc : checkS B4 = 0 := by decide +kernel
theorem alp : (partsS B4).length = 2 := by decide +kernel
set_option maxRecDepth 20000 in
set_option maxHeartbeats 8000000 in
theorem alive12_cps (w : World) (R : Ending → World → Prop) (hR : ∀ w', Mod [] w w' → R (.returned (.bool true)) w') : Calls Tryz.prog 15 #[] w R := by
  have hE6 := fun w R hR => wEncode_cps M6 6 rfl (by decide) (.slice none 0 0) (by decide) (by decide) (by unfold maxLen; decide) (by unfold maxLen; decide) (by decide) (by intro x hx; simp [M6] at hx) w (rdNil w 0) R hR
  have hE4 := fun w R hR => wEncode_cps M4 4 rfl (by decide) (.slice none 0 0) (by decide) (by decide) (by unfold maxLen; decide) (by unfold maxLen; decide) (by decide) (by intro x hx; simp [M4] at hx) w (rdNil w 0) R hR
  have hE2 := fun w R hR => wEncode_cps M2 2 rfl (by decide) (.slice none 0 0) (by decide) (by decide) (by unfold maxLen; decide) (by unfold maxLen; decide) (by decide) (by intro x hx; simp [M2] at hx) w (rdNil w 0) R hR
  rw [al6] at hE6
  rw [al4] at hE4
  rw [al2] at hE2
  unfold stV B6 M6 msgV msgC at hE6
  unfold stV B4 M4 msgV msgC at hE4
  unfold stV M2 msgV msgC B6 at hE2
  simp only at hE6 hE4 hE2
  refine calls_go 4000 okT Tryz.func15 rfl (rs := [.tmp 0]) rfl Tryz.ntmps15 (args := []) ?_
  simp (maxSteps := 1000000) (disch := first | omega | (simp only [sizeAlloc, sizeDrew, sizeSet, sizePut] <;> omega) | fail) only [GS, TT_eq, TTl, Nat.reduceAdd, Nat.reduceMul, Nat.reduceSub, Nat.reduceDiv, Nat.reduceMod, Nat.reducePow, Nat.reduceEqDiff, ↓reduceIte, reduceCtorEq, Int.reduceToNat, Int.reduceAdd, Int.reduceSub, Int.reduceMul]
  refine ⟨fok17, hE6 _ _ fun w1 hM1 => .inl ⟨_, rfl, hold_ops okT (rs := [.tmp 0]) rfl ?_⟩⟩
  simp (maxSteps := 1000000) (disch := first | omega | (simp only [sizeAlloc, sizeDrew, sizeSet, sizePut] <;> omega) | fail) only [GS, TT_eq, TTl, Nat.reduceAdd, Nat.reduceMul, Nat.reduceSub, Nat.reduceDiv, Nat.reduceMod, Nat.reducePow, Nat.reduceEqDiff, ↓reduceIte, reduceCtorEq, Int.reduceToNat, Int.reduceAdd, Int.reduceSub, Int.reduceMul]
  have hhT := st3 (heapNew (w := w1) (o := .cells #[.int .i64 0, .int .i64 0, .int .i64 0] 24)) (x := .int .i64 0) (y := .int .i64 1) (z := .int .i64 2)
  have hMT : Mod [] w _ := (((hM1.alloc (.cells #[.int .i64 0, .int .i64 0, .int .i64 0] 24)).set (p := ⟨w1.heap.size, 0, none⟩) (.inr hM1.size) (.int .i64 0)).set (p := ⟨w1.heap.size, 1, none⟩) (.inr hM1.size) (.int .i64 1)).set (p := ⟨w1.heap.size, 2, none⟩) (.inr hM1.size) (.int .i64 2)
  revert hhT hMT
  generalize (((w1.alloc (.cells #[.int .i64 0, .int .i64 0, .int .i64 0] 24)).setCell ⟨w1.heap.size, 0, none⟩ (.int .i64 0)).setCell ⟨w1.heap.size, 1, none⟩ (.int .i64 1)).setCell ⟨w1.heap.size, 2, none⟩ (.int .i64 2) = w2
  generalize w1.heap.size = b
  intro hhT hMT
  refine ⟨fok17, hE4 _ _ fun w3 hM3 => .inl ⟨_, rfl, hold_ops okT (rs := [.tmp 0]) rfl ?_⟩⟩
  have hh3 := hM3.get hhT (by simp)
  have hM03 := hMT.trans hM3 (by simp)
  have c3 := fun o => cellOf (o := o) hh3
  simp (maxSteps := 1000000) (disch := first | omega | (simp only [sizeAlloc, sizeDrew, sizeSet, sizePut] <;> omega) | fail) only [GS, TT_eq, TTl, Nat.reduceAdd, Nat.reduceMul, Nat.reduceSub, Nat.reduceDiv, Nat.reduceMod, Nat.reducePow, Nat.reduceEqDiff, ↓reduceIte, reduceCtorEq, Int.reduceToNat, Int.reduceAdd, Int.reduceSub, Int.reduceMul, c3]
  refine ⟨fok17, hE2 _ _ fun w4 hM4 => .inl ⟨_, rfl, hold_ops okT (rs := [.tmp 0]) rfl ?_⟩⟩
  have hh4 := hM4.get hh3 (by simp)
  have hM04 := hM03.trans hM4 (by simp)
  simp (maxSteps := 1000000) (disch := first | omega | (simp only [sizeAlloc, sizeDrew, sizeSet, sizePut] <;> omega) | fail) only [GS, TT_eq, TTl, Nat.reduceAdd, Nat.reduceMul, Nat.reduceSub, Nat.reduceDiv, Nat.reduceMod, Nat.reducePow, Nat.reduceEqDiff, ↓reduceIte, reduceCtorEq, Int.reduceToNat, Int.reduceAdd, Int.reduceSub, Int.reduceMul]
  refine ⟨fok24, wDecode_cps B4 (by unfold maxLen; decide) _ _ (fun m sv w5 hm hown hM5 => .inl ⟨_, rfl, hold_ops okT (rs := [.tmp 0]) rfl ?_⟩) (fun hm w5 hM5 => by rw [ald] at hm; simp at hm)⟩
  have hm4 : m = M4 := by rw [ald] at hm; exact (Option.some.inj hm).symm
  subst hm4
  have hh5 := hM5.get hh4 (by simp)
  have hM05 := hM04.trans hM5 (by simp)
  have hsv := ownsRow_one hown
  have hrd := Rd.own hown
  unfold M4 at hrd
  unfold msgV msgC M4
  simp only at hrd ⊢
  simp (maxSteps := 1000000) (disch := first | omega | (simp only [sizeAlloc, sizeDrew, sizeSet, sizePut] <;> omega) | fail) only [GS, TT_eq, TTl, Nat.reduceAdd, Nat.reduceMul, Nat.reduceSub, Nat.reduceDiv, Nat.reduceMod, Nat.reducePow, Nat.reduceEqDiff, ↓reduceIte, reduceCtorEq, Int.reduceToNat, Int.reduceAdd, Int.reduceSub, Int.reduceMul, cellsL_one hsv, hsv]
  have hhm : ((((((((((w5.alloc (.cells #[.int .u8 0, .int .i64 0, .int .i64 0, .int .i64 0, .int .i64 0, .slice none 0 0, .string ⟨#[]⟩, .bool false, .string ⟨#[]⟩] 35)).setCell ⟨w5.heap.size, 0, none⟩ (.int .u8 4)).setCell ⟨w5.heap.size, 1, none⟩ (.int .i64 0)).setCell ⟨w5.heap.size, 2, none⟩ (.int .i64 1)).setCell ⟨w5.heap.size, 3, none⟩ (.int .i64 2)).setCell ⟨w5.heap.size, 4, none⟩ (.int .i64 0)).setCell ⟨w5.heap.size, 5, none⟩ sv).setCell ⟨w5.heap.size, 6, none⟩ (.string ⟨#[]⟩)).setCell ⟨w5.heap.size, 7, none⟩ (.bool false)).setCell ⟨w5.heap.size, 8, none⟩ (.string ⟨#[]⟩)).heap[w5.heap.size]? = _ := st9 (heapNew (w := w5) (o := .cells #[.int .u8 0, .int .i64 0, .int .i64 0, .int .i64 0, .int .i64 0, .slice none 0 0, .string ⟨#[]⟩, .bool false, .string ⟨#[]⟩] 35))
  have hMm : Mod [] w5 ((((((((((w5.alloc (.cells #[.int .u8 0, .int .i64 0, .int .i64 0, .int .i64 0, .int .i64 0, .slice none 0 0, .string ⟨#[]⟩, .bool false, .string ⟨#[]⟩] 35)).setCell ⟨w5.heap.size, 0, none⟩ (.int .u8 4)).setCell ⟨w5.heap.size, 1, none⟩ (.int .i64 0)).setCell ⟨w5.heap.size, 2, none⟩ (.int .i64 1)).setCell ⟨w5.heap.size, 3, none⟩ (.int .i64 2)).setCell ⟨w5.heap.size, 4, none⟩ (.int .i64 0)).setCell ⟨w5.heap.size, 5, none⟩ sv).setCell ⟨w5.heap.size, 6, none⟩ (.string ⟨#[]⟩)).setCell ⟨w5.heap.size, 7, none⟩ (.bool false)).setCell ⟨w5.heap.size, 8, none⟩ (.string ⟨#[]⟩)) := (((((((((((Mod.refl [] w5).alloc (.cells #[.int .u8 0, .int .i64 0, .int .i64 0, .int .i64 0, .int .i64 0, .slice none 0 0, .string ⟨#[]⟩, .bool false, .string ⟨#[]⟩] 35)).set (p := ⟨w5.heap.size, 0, none⟩) (.inr (Nat.le_refl _)) (.int .u8 4)).set (p := ⟨w5.heap.size, 1, none⟩) (.inr (Nat.le_refl _)) (.int .i64 0)).set (p := ⟨w5.heap.size, 2, none⟩) (.inr (Nat.le_refl _)) (.int .i64 1)).set (p := ⟨w5.heap.size, 3, none⟩) (.inr (Nat.le_refl _)) (.int .i64 2)).set (p := ⟨w5.heap.size, 4, none⟩) (.inr (Nat.le_refl _)) (.int .i64 0)).set (p := ⟨w5.heap.size, 5, none⟩) (.inr (Nat.le_refl _)) sv).set (p := ⟨w5.heap.size, 6, none⟩) (.inr (Nat.le_refl _)) (.string ⟨#[]⟩)).set (p := ⟨w5.heap.size, 7, none⟩) (.inr (Nat.le_refl _)) (.bool false)).set (p := ⟨w5.heap.size, 8, none⟩) (.inr (Nat.le_refl _)) (.string ⟨#[]⟩))
  revert hhm hMm
  generalize ((((((((((w5.alloc (.cells #[.int .u8 0, .int .i64 0, .int .i64 0, .int .i64 0, .int .i64 0, .slice none 0 0, .string ⟨#[]⟩, .bool false, .string ⟨#[]⟩] 35)).setCell ⟨w5.heap.size, 0, none⟩ (.int .u8 4)).setCell ⟨w5.heap.size, 1, none⟩ (.int .i64 0)).setCell ⟨w5.heap.size, 2, none⟩ (.int .i64 1)).setCell ⟨w5.heap.size, 3, none⟩ (.int .i64 2)).setCell ⟨w5.heap.size, 4, none⟩ (.int .i64 0)).setCell ⟨w5.heap.size, 5, none⟩ sv).setCell ⟨w5.heap.size, 6, none⟩ (.string ⟨#[]⟩)).setCell ⟨w5.heap.size, 7, none⟩ (.bool false)).setCell ⟨w5.heap.size, 8, none⟩ (.string ⟨#[]⟩)) = w6
  generalize w5.heap.size = bm
  intro hhm hMm
  refine ⟨fok82, tParts_cps B4 (by unfold maxLen; decide) _ _ (fun h => absurd alc h) (fun _ pv w7 hpo hM7 => .inl ⟨_, rfl, hold_ops okT (rs := [.tmp 0]) rfl ?_⟩)⟩
  obtain ⟨pa, pc, rfl⟩ := (Rd.own hpo).slice
  rw [alp]
  have hM67 := hMm.trans hM7 (by simp)
  have c7 := fun o => cellOf (o := o) (hM67.get hh5 (by simp))
  have d7 := fun o => cellOf (o := o) (hM7.get hhm (by simp))
  have hrd7 := hrd.mod hM67 (by simp)
  have hM07 := hM05.trans hM67 (by simp)
  simp (maxSteps := 1000000) (disch := first | omega | (simp only [sizeAlloc, sizeDrew, sizeSet, sizePut] <;> omega) | fail) only [GS, TT_eq, TTl, Nat.reduceAdd, Nat.reduceMul, Nat.reduceSub, Nat.reduceDiv, Nat.reduceMod, Nat.reducePow, Nat.reduceEqDiff, ↓reduceIte, reduceCtorEq, Int.reduceToNat, Int.reduceAdd, Int.reduceSub, Int.reduceMul, c7, d7]
  have hsm := fun w R hR => Same12_cps M4 M4 sv (.slice none 0 0) w R (by decide) (hR := hR)
  rw [decide_eq_true ((same_iff M4 M4).2 rfl)] at hsm
  unfold M4 msgV msgC at hsm
  simp only at hsm
  refine ⟨fok21, hsm _ _ (fun w8 hM8 => .inl ⟨_, rfl, hold_ops okT (rs := [.tmp 0]) rfl ?_⟩) hrd7 (rdNil _ 0)⟩
  simp (maxSteps := 1000000) (disch := first | omega | (simp only [sizeAlloc, sizeDrew, sizeSet, sizePut] <;> omega) | fail) only [GS, TT_eq, TTl, Nat.reduceAdd, Nat.reduceMul, Nat.reduceSub, Nat.reduceDiv, Nat.reduceMod, Nat.reducePow, Nat.reduceEqDiff, ↓reduceIte, reduceCtorEq, Int.reduceToNat, Int.reduceAdd, Int.reduceSub, Int.reduceMul]
  refine ⟨fok22, wWord_cps 4 (by decide) _ _ fun w9 hM9 => .inl ⟨_, rfl, hold_ops okT (rs := [.tmp 0]) rfl ?_⟩⟩
  unfold wordS
  simp (maxSteps := 1000000) (disch := first | omega | (simp only [sizeAlloc, sizeDrew, sizeSet, sizePut] <;> omega) | fail) only [GS, TT_eq, TTl, Nat.reduceAdd, Nat.reduceMul, Nat.reduceSub, Nat.reduceDiv, Nat.reduceMod, Nat.reducePow, Nat.reduceEqDiff, ↓reduceIte, reduceCtorEq, Int.reduceToNat, Int.reduceAdd, Int.reduceSub, Int.reduceMul]
  exact hR _ ((hM07.trans hM8 (by simp)).trans hM9 (by simp))
end Go.Proofs.YtpcilobbohokcaaGreat
