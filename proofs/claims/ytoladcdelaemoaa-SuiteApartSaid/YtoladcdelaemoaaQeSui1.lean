/-
  hmac.Same; a suite of terms: New, Key, may, Mac, Same (walks).
-/
import Derived.Test.YtoladcdelaemoaaQeInv
import Derived.Test.YtoladcdelaemoaaQeB5
import Derived.Laws.BitsAllLaws
set_option linter.unusedSimpArgs false
set_option linter.unusedVariables false
set_option maxRecDepth 20000
namespace Go.Proofs.Ytoladcdelaemoaa
open Go Go.Wk Go.RowKit
attribute [local irreducible] go Hold
open Go.Lib
theorem xor0 (x y : Nat) : x ^^^ y = 0 ↔ x = y := by
  constructor
  · intro h
    apply Nat.eq_of_testBit_eq
    intro i
    have h2 := congrArg (fun z : Nat => z.testBit i) h
    simp only [Nat.testBit_xor, Nat.zero_testBit] at h2
    simpa using h2
  · rintro rfl
    exact Nat.xor_self x
theorem or0 (x y : Nat) : x ||| y = 0 ↔ x = 0 ∧ y = 0 := by
  constructor
  · intro h
    constructor
    all_goals
      apply Nat.eq_of_testBit_eq
      intro i
      have h2 := congrArg (fun z : Nat => z.testBit i) h
      simp only [Nat.testBit_or, Nat.zero_testBit, Bool.or_eq_false_iff] at h2
      simp [h2.1, h2.2]
  · rintro ⟨rfl, rfl⟩
    rfl
set_option maxRecDepth 20000 in
set_option maxHeartbeats 4000000 in
theorem hSame_cps (a b : List UInt8) (ha : a.length ≤ maxLen) (w : World) (R : Ending → World → Prop) (hR : ∀ w', Mod [] w w' → R (.returned (.bool (decide (a = b)))) w') :
    Calls Try.prog 139 #[.string ⟨a.toArray⟩, .string ⟨b.toArray⟩] w R := by
  unfold maxLen at ha
  refine calls_go 4000 okT Try.func139 rfl (rs := [.tmp 4]) rfl Try.ntmps139 (args := [.string ⟨a.toArray⟩, .string ⟨b.toArray⟩]) ?_
  by_cases hl : ((a.length : Nat) : Int) = ((b.length : Nat) : Int)
  rotate_left
  · rw [decide_eq_false (fun e => hl (by rw [e]))] at hR
    simp (maxSteps := 1000000) (disch := first | omega | (simp only [sizeAlloc, sizeDrew, sizeSet, sizePut] <;> omega) | fail) only [GS, TT_eq, TTl, Nat.reduceAdd, Nat.reduceMul, Nat.reduceSub, Nat.reduceDiv, Nat.reduceMod, Nat.reducePow, Nat.reduceEqDiff, ↓reduceIte, reduceCtorEq, Int.reduceToNat, Int.reduceAdd, Int.reduceSub, Int.reduceMul, hl]
    exact hR _ (Mod.refl _ _)
  have hl' : a.length = b.length := by omega
  simp (maxSteps := 1000000) (disch := first | omega | (simp only [sizeAlloc, sizeDrew, sizeSet, sizePut] <;> omega) | fail) only [GS, TT_eq, TTl, Nat.reduceAdd, Nat.reduceMul, Nat.reduceSub, Nat.reduceDiv, Nat.reduceMod, Nat.reducePow, Nat.reduceEqDiff, ↓reduceIte, reduceCtorEq, Int.reduceToNat, Int.reduceAdd, Int.reduceSub, Int.reduceMul, (decide_eq_true hl)]
  refine hold_loop okT (rs := [.tmp 4]) rfl [5, 14] [6, 15, 16, 17, 18, 19, 20, 21, 22, 23, 24, 25, 26] (fun vs w' => ∃ i d : Nat, vs = [.int .u8 d, .int .i64 i] ∧ i ≤ a.length ∧ d < 256 ∧ (d = 0 ↔ a.take i = b.take i) ∧ Mod [] w w') (fun vs _ => match vs with | [_, .int _ i] => a.length - i.toNat | _ => 0) (by kernel_rfl) ⟨0, 0, rfl, by omega, by omega, by simp, Mod.refl _ _⟩ ?_
  rintro vs w1 J ⟨i, d, rfl, hi, hd, hiff, hM⟩
  by_cases hlt : i < a.length
  rotate_left
  · have e : i = a.length := by omega
    subst e
    have hdd : decide (a = b) = decide ((d : Int) = 0) := decide_eq_decide.2 ⟨fun e => by have := hiff.2 (by rw [e]); omega, fun e => by have := hiff.1 (by omega); rw [List.take_length, hl', List.take_length] at this; exact this⟩
    rw [hdd] at hR
    simp (maxSteps := 1000000) (disch := first | omega | (simp only [sizeAlloc, sizeDrew, sizeSet, sizePut] <;> omega) | fail) only [GS, TT_eq, TTl, Nat.reduceAdd, Nat.reduceMul, Nat.reduceSub, Nat.reduceDiv, Nat.reduceMod, Nat.reducePow, Nat.reduceEqDiff, ↓reduceIte, reduceCtorEq, Int.reduceToNat, Int.reduceAdd, Int.reduceSub, Int.reduceMul]
    exact hR _ hM
  simp (maxSteps := 1000000) (disch := first | omega | (simp only [sizeAlloc, sizeDrew, sizeSet, sizePut] <;> omega) | fail) only [GS, TT_eq, TTl, Nat.reduceAdd, Nat.reduceMul, Nat.reduceSub, Nat.reduceDiv, Nat.reduceMod, Nat.reducePow, Nat.reduceEqDiff, ↓reduceIte, reduceCtorEq, Int.reduceToNat, Int.reduceAdd, Int.reduceSub, Int.reduceMul]
  have hx := (a.getD i 0).toNat_lt
  have hy := (b.getD i 0).toNat_lt
  have hx2 : (a.getD i 0).toNat ^^^ (b.getD i 0).toNat < 2 ^ 8 := Nat.xor_lt_two_pow (by omega) (by omega)
  have hd2 : d ||| ((a.getD i 0).toNat ^^^ (b.getD i 0).toNat) < 2 ^ 8 := Nat.or_lt_two_pow (by omega) hx2
  have hlb : i < b.length := by omega
  have ea : a.getD i 0 = a[i] := by rw [List.getD_eq_getElem?_getD, List.getElem?_eq_getElem hlt, Option.getD_some]
  have eb : b.getD i 0 = b[i] := by rw [List.getD_eq_getElem?_getD, List.getElem?_eq_getElem hlb, Option.getD_some]
  have hta := List.take_succ_eq_append_getElem hlt
  have htb := List.take_succ_eq_append_getElem hlb
  refine ⟨by kernel_rfl, fun m => ⟨⟨i + 1, d ||| ((a.getD i 0).toNat ^^^ (b.getD i 0).toNat), ?_, by omega, by omega, ?_, hM.drewN m⟩, by omega⟩⟩
  · rw [u8_xor_nat _ _ (by omega) (by omega), u8_or_nat _ _ hd (by omega)]
    rfl
  · rw [or0, xor0, hiff, hta, htb, ← ea, ← eb]
    constructor
    · rintro ⟨h1, h2⟩
      rw [h1, UInt8.toNat_inj.1 h2]
    · intro h
      obtain ⟨h1, h2⟩ := List.append_inj' h rfl
      exact ⟨h1, by rw [List.singleton_inj.1 h2]⟩
/-- A suite of terms. -/
def isSui (w : World) (s : Nat) : Prop := w.heap[s]? = some (.cells #[.iface 72 (.agg #[])] 76 (0, 0))
theorem isSui.mod {w w' : World} {s : Nat} (h : isSui w s) (hM : Mod [] w w') : isSui w' s := hM.get h (by simp)
set_option maxRecDepth 20000 in
set_option maxHeartbeats 4000000 in
theorem sKeyT_cps (n : List UInt8) (hn : n.length ≤ maxLen) (w : World) (R : Ending → World → Prop) (hR : ∀ w', Mod [] w w' → R (.returned (stV (atomS n))) w') :
    Calls Try.prog 119 #[.agg #[], .string ⟨n.toArray⟩] w R := by
  refine calls_go 4000 okT Try.func119 rfl (rs := [.tmp 4, .tmp 5]) rfl Try.ntmps119 (args := [.agg #[], .string ⟨n.toArray⟩]) ?_
  simp (maxSteps := 1000000) (disch := first | omega | (simp only [sizeAlloc, sizeDrew, sizeSet, sizePut] <;> omega) | fail) only [GS, TT_eq, TTl, Nat.reduceAdd, Nat.reduceMul, Nat.reduceSub, Nat.reduceDiv, Nat.reduceMod, Nat.reducePow, Nat.reduceEqDiff, ↓reduceIte, reduceCtorEq, Int.reduceToNat, Int.reduceAdd, Int.reduceSub, Int.reduceMul]
  generalize hW : w.alloc (.cells #[] 72) = w1
  have hM0 : Mod [] w w1 := by subst hW; exact (Mod.refl [] w).alloc _
  clear hW
  refine ⟨fok29, tAtom_cps n hn _ _ fun w2 hM2 => .inl ⟨_, rfl, hold_ops okT (rs := [.tmp 4, .tmp 5]) rfl ?_⟩⟩
  have hM02 := hM0.trans hM2 (by simp)
  unfold stV at hR ⊢
  simp (maxSteps := 1000000) (disch := first | omega | (simp only [sizeAlloc, sizeDrew, sizeSet, sizePut] <;> omega) | fail) only [GS, TT_eq, TTl, Nat.reduceAdd, Nat.reduceMul, Nat.reduceSub, Nat.reduceDiv, Nat.reduceMod, Nat.reducePow, Nat.reduceEqDiff, ↓reduceIte, reduceCtorEq, Int.reduceToNat, Int.reduceAdd, Int.reduceSub, Int.reduceMul]
  exact hR _ hM02
theorem mKey (w : World) : (method (Try.prog.types.size + Made.depth) 72 (.agg #[]) "chirograph/suite.key").run Try.prog w = .ok (119, .agg #[]) w := by kernel_rfl
end Go.Proofs.Ytoladcdelaemoaa
