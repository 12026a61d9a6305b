/-
  forge.Terms, Run; what the statements look at; the chapter's examples (walks).
-/
import Derived.Test.YtoladcdelaemoaaQdFrg5
set_option linter.unusedSimpArgs false
set_option linter.unusedVariables false
set_option maxRecDepth 20000
namespace Go.Proofs.Ytoladcdelaemoaa
open Go Go.Wk Go.RowKit
attribute [local irreducible] go Hold
open Go.Lib
def lastS (l : List (List UInt8)) : List UInt8 := l.getD (l.length - 1) []
def runR' (p : List (List UInt8) × Nat × Int) : List UInt8 × Nat × Int := if p.2.2 = 0 then (lastS p.1, 0, 0) else ([], p.2.1, p.2.2)
def rnV3 (p : List UInt8 × Nat × Int) : Value := .tuple #[.string ⟨p.1.toArray⟩, .int .i64 p.2.1, .int .i64 p.2.2]
theorem allT_ok {seen : List (List UInt8)} {xs : List Stp} (h : (allT seen xs).2.2 = 0) : (allT seen xs).1.length = xs.length ∧ 0 < xs.length := by
  unfold allT at h ⊢
  by_cases h0 : xs.length = 0
  · rw [if_pos h0] at h; simp at h
  · rw [if_neg h0] at h ⊢
    have := (runS_len xs [] h).1
    simp only [List.length_nil, Nat.zero_add] at this
    omega
set_option maxHeartbeats 2000000 in
theorem fRun_cps (sv ta : Value) (seen : List (List UInt8)) (xs : List Stp) (w : World) (R : Ending → World → Prop) (rs : Rd w 1 sv seen.length (seen.map strV)) (hs : ∀ s ∈ seen, s.length ≤ maxLen) (ls : seen.length ≤ 9223372036854775807) (hx : RdS w ta xs) (hxl : xs.length ≤ 32768)
    (hR : ∀ w', Mod [] w w' → R (.returned (rnV3 (runR' (allT seen xs)))) w') : Calls Try.prog 13 #[sv, ta] w R := by
  unfold runR' at hR
  refine calls_go 4000 okT Try.func13 rfl (rs := [.tmp 4, .tmp 5, .tmp 6]) rfl Try.ntmps13 (args := [sv, ta]) ?_
  simp (maxSteps := 1000000) (disch := first | omega | (simp only [sizeAlloc, sizeDrew, sizeSet, sizePut] <;> omega) | fail) only [GS, TT_eq, TTl, Nat.reduceAdd, Nat.reduceMul, Nat.reduceSub, Nat.reduceDiv, Nat.reduceMod, Nat.reducePow, Nat.reduceEqDiff, ↓reduceIte, reduceCtorEq, Int.reduceToNat, Int.reduceAdd, Int.reduceSub, Int.reduceMul]
  refine ⟨fok41, all_cps sv ta seen xs _ _ rs hs ls hx hxl fun lv w1 hown hM => .inl ⟨_, rfl, hold_ops okT (rs := [.tmp 4, .tmp 5, .tmp 6]) rfl ?_⟩⟩
  have hok := @allT_ok seen xs
  have hrd := Rd.own hown
  obtain ⟨pa, pc, rfl⟩ := hrd.slice
  by_cases he : (allT seen xs).2.2 = 0
  · rw [if_pos he] at hR
    obtain ⟨h1, h2⟩ := hok he
    obtain ⟨b1, o1, c1, e1, f1⟩ := rdAt rfl hrd (i := ((allT seen xs).1.length : Int) - 1) (by omega) (by omega)
    have hat : atL (allT seen xs).1 (((allT seen xs).1.length : Int) - 1) = lastS (allT seen xs).1 := by
      unfold atL lastS
      congr 1
      omega
    rw [hat] at f1
    rw [Value.slice.injEq] at e1
    obtain ⟨rfl, -, -⟩ := e1
    generalize allT seen xs = p at *
    obtain ⟨pl, pat, pe⟩ := p
    simp only at he h1 f1 hR hM hown ⊢
    subst he
    simp (maxSteps := 1000000) (disch := first | omega | (simp only [sizeAlloc, sizeDrew, sizeSet, sizePut] <;> omega) | fail) only [GS, TT_eq, TTl, Nat.reduceAdd, Nat.reduceMul, Nat.reduceSub, Nat.reduceDiv, Nat.reduceMod, Nat.reducePow, Nat.reduceEqDiff, ↓reduceIte, reduceCtorEq, Int.reduceToNat, Int.reduceAdd, Int.reduceSub, Int.reduceMul, f1]
    exact hR _ hM
  · rw [if_neg he] at hR
    generalize allT seen xs = p at *
    obtain ⟨pl, pat, pe⟩ := p
    simp only at he hR ⊢
    simp (maxSteps := 1000000) (disch := first | omega | (simp only [sizeAlloc, sizeDrew, sizeSet, sizePut] <;> omega) | fail) only [GS, TT_eq, TTl, Nat.reduceAdd, Nat.reduceMul, Nat.reduceSub, Nat.reduceDiv, Nat.reduceMod, Nat.reducePow, Nat.reduceEqDiff, ↓reduceIte, reduceCtorEq, Int.reduceToNat, Int.reduceAdd, Int.reduceSub, Int.reduceMul, he]
    exact hR _ hM
/-! the chapter's examples -/
abbrev eK : List UInt8 := [97, 1, 107]
abbrev eN : List UInt8 := [100, 1, 110]
abbrev eX : List UInt8 := [97, 1, 120]
abbrev eS : List UInt8 := [115, 97, 1, 107, 100, 1, 110, 97, 1, 120]
abbrev eR : List UInt8 := [114, 1, 97, 1, 107]
def st (d : Nat) (a b n : Int) : Stp := ⟨d, a, b, 0, n, [], [], .slice none 0 0⟩
theorem st_in (w : World) (d : Nat) (a b n : Int) (hd : d < 256) (ha : 0 ≤ a ∧ a ≤ 100) (hb : 0 ≤ b ∧ b ≤ 100) (hn : 0 ≤ n ∧ n ≤ 100) : StpIn w (st d a b n) :=
  ⟨hd, by simp only [st]; omega, by simp only [st]; omega, by simp [st], by simp only [st]; omega, by simp [st], by simp [st], by simp [st], (show Rd w 1 (.slice none 0 0) 0 [] from ⟨by simp, none, 0, rfl, by simp, by simp⟩)⟩
theorem x1 : atomS [107] = (eK, 0) := by decide
theorem x2 : dataS [110] = (eN, 0) := by decide
theorem x3 : atomS [120] = (eX, 0) := by decide
theorem x4 : madeS [115] [eK, eN, eX] = (eS, 0) := by decide
theorem x5 : madeS (114 :: numL 1) [eK] = (eR, 0) := by decide
theorem x6 : runR' (allT [eS, eR] [st 1 0 0 0, st 1 0 0 1, st 3 1 0 0, st 5 0 2 0]) = (eX, 0, 0) := by decide +kernel
theorem x7 : runR' (allT [eS, eR] [st 1 0 0 0, st 5 0 0 0]) = ([], 1, 80) := by decide +kernel
set_option maxRecDepth 20000 in
set_option maxHeartbeats 4000000 in
theorem alive_cps (w : World) (R : Ending → World → Prop) (hR : ∀ w', Mod [] w w' → R (.returned (.bool true)) w') : Calls Try.prog 9 #[] w R := by
  refine calls_go 4000 okT Try.func9 rfl (rs := [.tmp 0]) rfl Try.ntmps9 (args := []) ?_
  simp (maxSteps := 1000000) (disch := first | omega | (simp only [sizeAlloc, sizeDrew, sizeSet, sizePut] <;> omega) | fail) only [GS, TT_eq, TTl, Nat.reduceAdd, Nat.reduceMul, Nat.reduceSub, Nat.reduceDiv, Nat.reduceMod, Nat.reducePow, Nat.reduceEqDiff, ↓reduceIte, reduceCtorEq, Int.reduceToNat, Int.reduceAdd, Int.reduceSub, Int.reduceMul]
  refine ⟨fok29, tAtom_cps [107] (by decide) _ _ fun w1 hM1 => .inl ⟨_, rfl, hold_ops okT (rs := [.tmp 0]) rfl ?_⟩⟩
  rw [x1]
  unfold stV
  simp (maxSteps := 1000000) (disch := first | omega | (simp only [sizeAlloc, sizeDrew, sizeSet, sizePut] <;> omega) | fail) only [GS, TT_eq, TTl, Nat.reduceAdd, Nat.reduceMul, Nat.reduceSub, Nat.reduceDiv, Nat.reduceMod, Nat.reducePow, Nat.reduceEqDiff, ↓reduceIte, reduceCtorEq, Int.reduceToNat, Int.reduceAdd, Int.reduceSub, Int.reduceMul]
  refine ⟨fok30, tData_cps [110] (by decide) _ _ fun w2 hM2 => .inl ⟨_, rfl, hold_ops okT (rs := [.tmp 0]) rfl ?_⟩⟩
  rw [x2]
  unfold stV
  simp (maxSteps := 1000000) (disch := first | omega | (simp only [sizeAlloc, sizeDrew, sizeSet, sizePut] <;> omega) | fail) only [GS, TT_eq, TTl, Nat.reduceAdd, Nat.reduceMul, Nat.reduceSub, Nat.reduceDiv, Nat.reduceMod, Nat.reducePow, Nat.reduceEqDiff, ↓reduceIte, reduceCtorEq, Int.reduceToNat, Int.reduceAdd, Int.reduceSub, Int.reduceMul]
  refine ⟨fok29, tAtom_cps [120] (by decide) _ _ fun w3 hM3 => .inl ⟨_, rfl, hold_ops okT (rs := [.tmp 0]) rfl ?_⟩⟩
  rw [x3]
  unfold stV
  simp (maxSteps := 1000000) (disch := first | omega | (simp only [sizeAlloc, sizeDrew, sizeSet, sizePut] <;> omega) | fail) only [GS, TT_eq, TTl, Nat.reduceAdd, Nat.reduceMul, Nat.reduceSub, Nat.reduceDiv, Nat.reduceMod, Nat.reducePow, Nat.reduceEqDiff, ↓reduceIte, reduceCtorEq, Int.reduceToNat, Int.reduceAdd, Int.reduceSub, Int.reduceMul]
  refine ⟨fok31, tSeal_cps eK eN eX (by decide) (by decide) (by decide) _ _ fun w4 hM4 => .inl ⟨_, rfl, hold_ops okT (rs := [.tmp 0]) rfl ?_⟩⟩
  rw [x4]
  unfold stV
  simp (maxSteps := 1000000) (disch := first | omega | (simp only [sizeAlloc, sizeDrew, sizeSet, sizePut] <;> omega) | fail) only [GS, TT_eq, TTl, Nat.reduceAdd, Nat.reduceMul, Nat.reduceSub, Nat.reduceDiv, Nat.reduceMod, Nat.reducePow, Nat.reduceEqDiff, ↓reduceIte, reduceCtorEq, Int.reduceToNat, Int.reduceAdd, Int.reduceSub, Int.reduceMul]
  have hrd := Rd.lit (w := w4) (size := 1) (n := 1) (e := 9) (xs := [eK].map strV) rfl
  refine ⟨fok32, tRow_cps _ [eK] _ _ (by decide) (by decide) hrd fun w5 hM5' => .inl ⟨_, rfl, hold_ops okT (rs := [.tmp 0]) rfl ?_⟩⟩
  have hM5 := ((Mod.refl [] w4).alloc _).trans hM5' (by simp)
  rw [show madeS (114 :: numL [eK].length) [eK] = (eR, 0) from x5]
  unfold stV
  simp (maxSteps := 1000000) (disch := first | omega | (simp only [sizeAlloc, sizeDrew, sizeSet, sizePut] <;> omega) | fail) only [GS, TT_eq, TTl, Nat.reduceAdd, Nat.reduceMul, Nat.reduceSub, Nat.reduceDiv, Nat.reduceMod, Nat.reducePow, Nat.reduceEqDiff, ↓reduceIte, reduceCtorEq, Int.reduceToNat, Int.reduceAdd, Int.reduceSub, Int.reduceMul]
  have hW5 := (((hM1.trans hM2 (by simp)).trans hM3 (by simp)).trans hM4 (by simp)).trans hM5 (by simp)
  clear hM1 hM2 hM3 hM4 hM5 hM5' hrd
  have hrl : Rd (w5.alloc (.cells #[.string ⟨eS.toArray⟩, .string ⟨eR.toArray⟩] 9)) 1 (.slice (some ⟨w5.heap.size, 0, none⟩) 2 2) 2 ([eS, eR].map strV) := Rd.lit (n := 2) (xs := [.string ⟨eS.toArray⟩, .string ⟨eR.toArray⟩]) rfl
  have hM6 := (Mod.refl [] w5).alloc (.cells #[.string ⟨eS.toArray⟩, .string ⟨eR.toArray⟩] 9)
  have h6 : (w5.alloc (.cells #[.string ⟨eS.toArray⟩, .string ⟨eR.toArray⟩] 9)).heap.size = w5.heap.size + 1 := Array.size_push _
  generalize w5.alloc (.cells #[.string ⟨eS.toArray⟩, .string ⟨eR.toArray⟩] 9) = w6 at *
  rw [← h6]
  have hx1 : RdS (w6.alloc (.cells ([st 1 0 0 0, st 1 0 0 1, st 3 1 0 0, st 5 0 2 0].flatMap stpC).toArray 55)) (.slice (some ⟨w6.heap.size, 0, none⟩) 4 4) [st 1 0 0 0, st 1 0 0 1, st 3 1 0 0, st 5 0 2 0] := ⟨Rd.lit (n := 4) (size := 7) (by rfl), by
    intro x hx
    simp only [List.mem_cons, List.not_mem_nil, or_false] at hx
    rcases hx with rfl | rfl | rfl | rfl <;> exact st_in _ _ _ _ _ (by decide) (by decide) (by decide) (by decide)⟩
  have hM7 := (Mod.refl [] w6).alloc (.cells ([st 1 0 0 0, st 1 0 0 1, st 3 1 0 0, st 5 0 2 0].flatMap stpC).toArray 55)
  refine ⟨fok13, fRun_cps _ _ [eS, eR] _ _ _ (hrl.mod hM7 (by simp)) (by decide) (by decide) hx1 (by decide) fun w7 hM8 => .inl ⟨_, rfl, hold_ops okT (rs := [.tmp 0]) rfl ?_⟩⟩
  rw [x6]
  unfold rnV3
  simp (maxSteps := 1000000) (disch := first | omega | (simp only [sizeAlloc, sizeDrew, sizeSet, sizePut] <;> omega) | fail) only [GS, TT_eq, TTl, Nat.reduceAdd, Nat.reduceMul, Nat.reduceSub, Nat.reduceDiv, Nat.reduceMod, Nat.reducePow, Nat.reduceEqDiff, ↓reduceIte, reduceCtorEq, Int.reduceToNat, Int.reduceAdd, Int.reduceSub, Int.reduceMul]
  have hW7 := (((hW5.trans hM6 (by simp)).trans hM7 (by simp)).trans hM8 (by simp))
  have hrl7 := hrl.mod (hM7.trans hM8 (by simp)) (by simp)
  clear hM6 hM7 hM8 hx1 hrl hW5
  have hx2 : RdS (w7.alloc (.cells ([st 1 0 0 0, st 5 0 0 0].flatMap stpC).toArray 55)) (.slice (some ⟨w7.heap.size, 0, none⟩) 2 2) [st 1 0 0 0, st 5 0 0 0] := ⟨Rd.lit (n := 2) (size := 7) (by rfl), by
    intro x hx
    simp only [List.mem_cons, List.not_mem_nil, or_false] at hx
    rcases hx with rfl | rfl <;> exact st_in _ _ _ _ _ (by decide) (by decide) (by decide) (by decide)⟩
  have hM9 := (Mod.refl [] w7).alloc (.cells ([st 1 0 0 0, st 5 0 0 0].flatMap stpC).toArray 55)
  refine ⟨fok13, fRun_cps _ _ [eS, eR] _ _ _ (hrl7.mod hM9 (by simp)) (by decide) (by decide) hx2 (by decide) fun w8 hM10 => .inl ⟨_, rfl, hold_ops okT (rs := [.tmp 0]) rfl ?_⟩⟩
  rw [x7]
  unfold rnV3
  have hW := (hW7.trans hM9 (by simp)).trans hM10 (by simp)
  simp (maxSteps := 1000000) (disch := first | omega | (simp only [sizeAlloc, sizeDrew, sizeSet, sizePut] <;> omega) | fail) only [GS, TT_eq, TTl, Nat.reduceAdd, Nat.reduceMul, Nat.reduceSub, Nat.reduceDiv, Nat.reduceMod, Nat.reducePow, Nat.reduceEqDiff, ↓reduceIte, reduceCtorEq, Int.reduceToNat, Int.reduceAdd, Int.reduceSub, Int.reduceMul]
  exact hR _ hW
end Go.Proofs.Ytoladcdelaemoaa
