/-
  What a suite of terms makes (plain); long (walk).
-/
import Derived.Test.YtoladcdelaemoaaQeAlv8
set_option linter.unusedSimpArgs false
set_option linter.unusedVariables false
set_option maxRecDepth 20000
namespace Go.Proofs.Ytoladcdelaemoaa
open Go Go.Wk Go.RowKit
attribute [local irreducible] go Hold
open Go.Lib
theorem made_all' {h : Tm} {l : List Tm} (hh : Hd h l.length) {x : Tm} (hx : madeS h l = (x, 0)) : checkS x = 0 ∧ partsS x = l ∧ kindS x = kC (h.headD 0) ∧ ∀ y ∈ l, checkS y = 0 := by
  obtain ⟨K, tr, hr⟩ := made_is hh hx
  have h1 := hh.pos
  refine ⟨tr.ok, by rw [tr.parts, hr], ?_, by rw [← hr]; exact tr.root⟩
  unfold kindS
  rw [if_pos tr.ok, tr.1]
  cases h with
  | nil => simp at h1
  | cons d h => rfl
theorem hd4 : Hd [104] 1 := .inr (.inr (.inr (.inl ⟨rfl, rfl⟩)))
theorem hd5 : Hd [109] 2 := .inr (.inr (.inr (.inr (.inl ⟨rfl, rfl⟩))))
theorem hd6 : Hd [115] 3 := .inr (.inr (.inr (.inr (.inr ⟨rfl, rfl⟩))))
theorem hashG_trm (kt : List Int) (t : Tm) : hashG kt .trm t = madeS [104] [t] := by
  unfold hashG
  by_cases h : allS [t] = true
  · rw [if_pos h]
  · rw [if_neg h]; unfold madeS; rw [if_neg h]
theorem macG_trm (kt : List Int) (k t : Tm) : macG kt .trm k t = madeS [109] [k, t] := by
  unfold macG
  by_cases h : allS [k, t] = true
  · rw [if_pos h]
  · rw [if_neg h]; unfold madeS; rw [if_neg h]
theorem sealG_trm (kt : List Int) (k n t : Tm) : sealG kt .trm k n t = madeS [115] [k, n, t] := by
  unfold sealG
  by_cases h : allS [k, n, t] = true
  · rw [if_pos h]
  · rw [if_neg h]; unfold madeS; rw [if_neg h]
theorem hash_is {kt : List Int} {t x : Tm} (h : hashG kt .trm t = (x, 0)) : checkS x = 0 ∧ kindS x = 4 ∧ partsS x = [t] ∧ checkS t = 0 := by
  rw [hashG_trm] at h
  obtain ⟨a, b, c, d⟩ := made_all' hd4 h
  exact ⟨a, c, b, d t (by simp)⟩
theorem mac_is {kt : List Int} {k t x : Tm} (h : macG kt .trm k t = (x, 0)) : checkS x = 0 ∧ kindS x = 5 ∧ partsS x = [k, t] ∧ checkS k = 0 ∧ checkS t = 0 := by
  rw [macG_trm] at h
  obtain ⟨a, b, c, d⟩ := made_all' hd5 h
  exact ⟨a, c, b, d k (by simp), d t (by simp)⟩
theorem seal_is {kt : List Int} {k n t x : Tm} (h : sealG kt .trm k n t = (x, 0)) : checkS x = 0 ∧ kindS x = 6 ∧ partsS x = [k, n, t] ∧ checkS k = 0 ∧ checkS n = 0 ∧ checkS t = 0 := by
  rw [sealG_trm] at h
  obtain ⟨a, b, c, d⟩ := made_all' hd6 h
  exact ⟨a, c, b, d k (by simp), d n (by simp), d t (by simp)⟩
theorem atom_inj {a b x y : Tm} (h : atomS a = (x, 0)) (h2 : atomS b = (y, 0)) : x = y ↔ a = b := by
  have ha := atom_len a (by rw [h])
  have hb := atom_len b (by rw [h2])
  have key : ∀ {a x : Tm}, atomS a = (x, 0) → a.length ≤ 32 → x = 97 :: (numL a.length ++ a) := by
    intro a x h hl
    unfold atomS at h
    rw [if_neg (by omega)] at h
    split at h
    · exact (congrArg Prod.fst h).symm
    · exact absurd (congrArg Prod.snd h) (by simp)
  rw [key h ha, key h2 hb]
  constructor
  · intro q
    have q := (List.cons.inj q).2
    have n1 : ∀ n, n ≤ 32 → numL n = [UInt8.ofNat n] := fun n hn => by unfold numL; rw [if_pos (by omega)]
    rw [n1 _ ha, n1 _ hb] at q
    exact (List.cons.inj q).2
  · rintro rfl; rfl
set_option maxHeartbeats 2000000 in
theorem long8_cps (a b c d : List UInt8) (ha : a.length ≤ maxLen) (hb : b.length ≤ maxLen) (hc : c.length ≤ maxLen) (hd : d.length ≤ maxLen) (w : World) (R : Ending → World → Prop) (hR : ∀ v : Bool, (v = false → a.length ≤ 20000 ∧ b.length ≤ 20000 ∧ c.length ≤ 20000 ∧ d.length ≤ 20000) → R (.returned (.bool v)) w) :
    Calls Try.prog 18 #[.string ⟨a.toArray⟩, .string ⟨b.toArray⟩, .string ⟨c.toArray⟩, .string ⟨d.toArray⟩] w R := by
  unfold maxLen at ha hb hc hd
  refine calls_go 4000 okT Try.func18 rfl (rs := [.tmp 8]) rfl Try.ntmps18 (args := [.string ⟨a.toArray⟩, .string ⟨b.toArray⟩, .string ⟨c.toArray⟩, .string ⟨d.toArray⟩]) ?_
  by_cases h1 : 20000 < a.length
  · simp (maxSteps := 1000000) (disch := first | omega | (simp only [sizeAlloc, sizeDrew, sizeSet, sizePut] <;> omega) | fail) only [GS, TT_eq, TTl, Nat.reduceAdd, Nat.reduceMul, Nat.reduceSub, Nat.reduceDiv, Nat.reduceMod, Nat.reducePow, Nat.reduceEqDiff, ↓reduceIte, reduceCtorEq, Int.reduceToNat, Int.reduceAdd, Int.reduceSub, Int.reduceMul]
    exact hR true (by simp)
  by_cases h2 : 20000 < b.length
  · simp (maxSteps := 1000000) (disch := first | omega | (simp only [sizeAlloc, sizeDrew, sizeSet, sizePut] <;> omega) | fail) only [GS, TT_eq, TTl, Nat.reduceAdd, Nat.reduceMul, Nat.reduceSub, Nat.reduceDiv, Nat.reduceMod, Nat.reducePow, Nat.reduceEqDiff, ↓reduceIte, reduceCtorEq, Int.reduceToNat, Int.reduceAdd, Int.reduceSub, Int.reduceMul]
    exact hR true (by simp)
  by_cases h3 : 20000 < c.length
  · simp (maxSteps := 1000000) (disch := first | omega | (simp only [sizeAlloc, sizeDrew, sizeSet, sizePut] <;> omega) | fail) only [GS, TT_eq, TTl, Nat.reduceAdd, Nat.reduceMul, Nat.reduceSub, Nat.reduceDiv, Nat.reduceMod, Nat.reducePow, Nat.reduceEqDiff, ↓reduceIte, reduceCtorEq, Int.reduceToNat, Int.reduceAdd, Int.reduceSub, Int.reduceMul]
    exact hR true (by simp)
  by_cases h4 : 20000 < d.length
  · simp (maxSteps := 1000000) (disch := first | omega | (simp only [sizeAlloc, sizeDrew, sizeSet, sizePut] <;> omega) | fail) only [GS, TT_eq, TTl, Nat.reduceAdd, Nat.reduceMul, Nat.reduceSub, Nat.reduceDiv, Nat.reduceMod, Nat.reducePow, Nat.reduceEqDiff, ↓reduceIte, reduceCtorEq, Int.reduceToNat, Int.reduceAdd, Int.reduceSub, Int.reduceMul]
    exact hR true (by simp)
  simp (maxSteps := 1000000) (disch := first | omega | (simp only [sizeAlloc, sizeDrew, sizeSet, sizePut] <;> omega) | fail) only [GS, TT_eq, TTl, Nat.reduceAdd, Nat.reduceMul, Nat.reduceSub, Nat.reduceDiv, Nat.reduceMod, Nat.reducePow, Nat.reduceEqDiff, ↓reduceIte, reduceCtorEq, Int.reduceToNat, Int.reduceAdd, Int.reduceSub, Int.reduceMul]
  exact hR false (fun _ => by omega)
end Go.Proofs.Ytoladcdelaemoaa
