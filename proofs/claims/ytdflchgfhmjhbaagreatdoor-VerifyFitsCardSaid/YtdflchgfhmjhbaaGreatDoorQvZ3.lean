/-
  hmac.Same; a suite of terms: New, Key, may, Mac, Same (walks). A suite of terms: may, Mac, Same (walks). 'a[i:j]' of an array. sha: turning right (walk). sha: a block is taken in (walk). sha: New, Copy, Write (walks). sha: Write (walk). sha: Sum (walk).
-/
import Derived.Test.YtdflchgfhmjhbaaGreatDoorQvInv
import Derived.Test.YtdflchgfhmjhbaaGreatDoorQvZ2
import Derived.Laws.BitsAllLaws
import Derived.Test.YtdflchgfhmjhbaaGreatDoorQvTab
import Derived.Test.YtdflchgfhmjhbaaGreatDoorQvRd
import Derived.Test.YtdflchgfhmjhbaaGreatDoorQvRec
import Derived.Test.YtdflchgfhmjhbaaGreatDoorQvMap
import Derived.Test.YtdflchgfhmjhbaaGreatDoorQvCpy
import Derived.Laws.AppendOwn
set_option linter.unusedSimpArgs false
set_option linter.unusedVariables false
namespace Go.Proofs.YtdflchgfhmjhbaaGreatDoor
set_option maxHeartbeats 16000000
set_option maxRecDepth 20000
open Go Go.Wk Go.RowKit
attribute [local irreducible] go Hold
open Go.Lib
theorem xor0 (x y : Nat) : x ^^^ y = 0 ↔ x = y := by
  constructor
  · intro h
    apply Nat.eq_of_testBit_eq
    intro i
    have h2 := congrArg (fun z : Nat => z.testBit i) h
    simp only [Nat.testBit_xor, Nat.zero_testBit] at h2
    simpa using h2
  · rintro rfl
    exact Nat.xor_self x
theorem or0 (x y : Nat) : x ||| y = 0 ↔ x = 0 ∧ y = 0 := by
  constructor
  · intro h
    constructor
    all_goals
      apply Nat.eq_of_testBit_eq
      intro i
      have h2 := congrArg (fun z : Nat => z.testBit i) h
      simp only [Nat.testBit_or, Nat.zero_testBit, Bool.or_eq_false_iff] at h2
      simp [h2.1, h2.2]
  · rintro ⟨rfl, rfl⟩
    rfl
theorem hSame_cps (a b : List UInt8) (ha : a.length ≤ maxLen) (w : World) (R : Ending → World → Prop) (hR : ∀ w', Mod [] w w' → R (.returned (.bool (decide (a = b)))) w') :
    Calls Tryz.prog 81 #[.string ⟨a.toArray⟩, .string ⟨b.toArray⟩] w R := by
  unfold maxLen at ha
  refine calls_go 4000 okT Tryz.func81 rfl (rs := [.tmp 4]) rfl Tryz.ntmps81 (args := [.string ⟨a.toArray⟩, .string ⟨b.toArray⟩]) ?_
  by_cases hl : ((a.length : Nat) : Int) = ((b.length : Nat) : Int)
  rotate_left
  · rw [decide_eq_false (fun e => hl (by rw [e]))] at hR
    simp (maxSteps := 1000000) (disch := first | omega | (simp only [sizeAlloc, sizeDrew, sizeSet, sizePut] <;> omega) | fail) only [GS, TT_eq, TTl, Nat.reduceAdd, Nat.reduceMul, Nat.reduceSub, Nat.reduceDiv, Nat.reduceMod, Nat.reducePow, Nat.reduceEqDiff, ↓reduceIte, reduceCtorEq, Int.reduceToNat, Int.reduceAdd, Int.reduceSub, Int.reduceMul, hl]
    exact hR _ (Mod.refl _ _)
  have hl' : a.length = b.length := by omega
  simp (maxSteps := 1000000) (disch := first | omega | (simp only [sizeAlloc, sizeDrew, sizeSet, sizePut] <;> omega) | fail) only [GS, TT_eq, TTl, Nat.reduceAdd, Nat.reduceMul, Nat.reduceSub, Nat.reduceDiv, Nat.reduceMod, Nat.reducePow, Nat.reduceEqDiff, ↓reduceIte, reduceCtorEq, Int.reduceToNat, Int.reduceAdd, Int.reduceSub, Int.reduceMul, (decide_eq_true hl)]
  refine hold_loop okT (rs := [.tmp 4]) rfl [5, 14] [6, 15, 16, 17, 18, 19, 20, 21, 22, 23, 24, 25, 26] (fun vs w' => ∃ i d : Nat, vs = [.int .u8 d, .int .i64 i] ∧ i ≤ a.length ∧ d < 256 ∧ (d = 0 ↔ a.take i = b.take i) ∧ Mod [] w w') (fun vs _ => match vs with | [_, .int _ i] => a.length - i.toNat | _ => 0) (by kernel_rfl) ⟨0, 0, rfl, by omega, by omega, by simp, Mod.refl _ _⟩ ?_
  rintro vs w1 J ⟨i, d, rfl, hi, hd, hiff, hM⟩
  by_cases hlt : i < a.length
  rotate_left
  · have e : i = a.length := by omega
    subst e
    have hdd : decide (a = b) = decide ((d : Int) = 0) := decide_eq_decide.2 ⟨fun e => by have := hiff.2 (by rw [e]); omega, fun e => by have := hiff.1 (by omega); rw [List.take_length, hl', List.take_length] at this; exact this⟩
    rw [hdd] at hR
    simp (maxSteps := 1000000) (disch := first | omega | (simp only [sizeAlloc, sizeDrew, sizeSet, sizePut] <;> omega) | fail) only [GS, TT_eq, TTl, Nat.reduceAdd, Nat.reduceMul, Nat.reduceSub, Nat.reduceDiv, Nat.reduceMod, Nat.reducePow, Nat.reduceEqDiff, ↓reduceIte, reduceCtorEq, Int.reduceToNat, Int.reduceAdd, Int.reduceSub, Int.reduceMul]
    exact hR _ hM
  simp (maxSteps := 1000000) (disch := first | omega | (simp only [sizeAlloc, sizeDrew, sizeSet, sizePut] <;> omega) | fail) only [GS, TT_eq, TTl, Nat.reduceAdd, Nat.reduceMul, Nat.reduceSub, Nat.reduceDiv, Nat.reduceMod, Nat.reducePow, Nat.reduceEqDiff, ↓reduceIte, reduceCtorEq, Int.reduceToNat, Int.reduceAdd, Int.reduceSub, Int.reduceMul]
  have hx := (a.getD i 0).toNat_lt
  have hy := (b.getD i 0).toNat_lt
  have hx2 : (a.getD i 0).toNat ^^^ (b.getD i 0).toNat < 2 ^ 8 := Nat.xor_lt_two_pow (by omega) (by omega)
  have hd2 : d ||| ((a.getD i 0).toNat ^^^ (b.getD i 0).toNat) < 2 ^ 8 := Nat.or_lt_two_pow (by omega) hx2
  have hlb : i < b.length := by omega
  have ea : a.getD i 0 = a[i] := by rw [List.getD_eq_getElem?_getD, List.getElem?_eq_getElem hlt, Option.getD_some]
  have eb : b.getD i 0 = b[i] := by rw [List.getD_eq_getElem?_getD, List.getElem?_eq_getElem hlb, Option.getD_some]
  have hta := List.take_succ_eq_append_getElem hlt
  have htb := List.take_succ_eq_append_getElem hlb
  refine ⟨by kernel_rfl, fun m => ⟨⟨i + 1, d ||| ((a.getD i 0).toNat ^^^ (b.getD i 0).toNat), ?_, by omega, by omega, ?_, hM.drewN m⟩, by omega⟩⟩
  · rw [u8_xor_nat _ _ (by omega) (by omega), u8_or_nat _ _ hd (by omega)]
    rfl
  · rw [or0, xor0, hiff, hta, htb, ← ea, ← eb]
    constructor
    · rintro ⟨h1, h2⟩
      rw [h1, UInt8.toNat_inj.1 h2]
    · intro h
      obtain ⟨h1, h2⟩ := List.append_inj' h rfl
      exact ⟨h1, by rw [List.singleton_inj.1 h2]⟩
/-- A suite of terms. -/
def isSui (w : World) (s : Nat) : Prop := w.heap[s]? = some (.cells #[.iface 76 (.agg #[])] 80 (0, 0))
theorem isSui.mod {w w' : World} {s : Nat} (h : isSui w s) (hM : Mod [] w w') : isSui w' s := hM.get h (by simp)
theorem sNew_cps (m : List UInt8) (w : World) (R : Ending → World → Prop) (hR : ∀ s w', isSui w' s → Mod [] w w' → R (.returned (.tuple #[.pointer (some ⟨s, 0, none⟩), .int .i64 0])) w') :
    Calls Tryz.prog 6 #[.int .u8 1, .string ⟨m.toArray⟩] w R := by
  refine calls_go 4000 okT Tryz.func6 rfl (rs := [.tmp 4, .tmp 5]) rfl Tryz.ntmps6 (args := [.int .u8 1, .string ⟨m.toArray⟩]) ?_
  simp (maxSteps := 1000000) (disch := first | omega | (simp only [sizeAlloc, sizeDrew, sizeSet, sizePut] <;> omega) | fail) only [GS, TT_eq, TTl, Nat.reduceAdd, Nat.reduceMul, Nat.reduceSub, Nat.reduceDiv, Nat.reduceMod, Nat.reducePow, Nat.reduceEqDiff, ↓reduceIte, reduceCtorEq, Int.reduceToNat, Int.reduceAdd, Int.reduceSub, Int.reduceMul]
  exact hR w.heap.size _ heapNew ((Mod.refl [] w).alloc _)
theorem sKeyT_cps (n : List UInt8) (hn : n.length ≤ maxLen) (w : World) (R : Ending → World → Prop) (hR : ∀ w', Mod [] w w' → R (.returned (stV (atomS n))) w') :
    Calls Tryz.prog 187 #[.agg #[], .string ⟨n.toArray⟩] w R := by
  refine calls_go 4000 okT Tryz.func187 rfl (rs := [.tmp 4, .tmp 5]) rfl Tryz.ntmps187 (args := [.agg #[], .string ⟨n.toArray⟩]) ?_
  simp (maxSteps := 1000000) (disch := first | omega | (simp only [sizeAlloc, sizeDrew, sizeSet, sizePut] <;> omega) | fail) only [GS, TT_eq, TTl, Nat.reduceAdd, Nat.reduceMul, Nat.reduceSub, Nat.reduceDiv, Nat.reduceMod, Nat.reducePow, Nat.reduceEqDiff, ↓reduceIte, reduceCtorEq, Int.reduceToNat, Int.reduceAdd, Int.reduceSub, Int.reduceMul]
  generalize hW : w.alloc (.cells #[] 76) = w1
  have hM0 : Mod [] w w1 := by subst hW; exact (Mod.refl [] w).alloc _
  clear hW
  refine ⟨fok189, tAtom_cps n hn _ _ fun w2 hM2 => .inl ⟨_, rfl, hold_ops okT (rs := [.tmp 4, .tmp 5]) rfl ?_⟩⟩
  have hM02 := hM0.trans hM2 (by simp)
  unfold stV at hR ⊢
  simp (maxSteps := 1000000) (disch := first | omega | (simp only [sizeAlloc, sizeDrew, sizeSet, sizePut] <;> omega) | fail) only [GS, TT_eq, TTl, Nat.reduceAdd, Nat.reduceMul, Nat.reduceSub, Nat.reduceDiv, Nat.reduceMod, Nat.reducePow, Nat.reduceEqDiff, ↓reduceIte, reduceCtorEq, Int.reduceToNat, Int.reduceAdd, Int.reduceSub, Int.reduceMul]
  exact hR _ hM02
theorem mKey (w : World) : (method (Tryz.prog.types.size + Made.depth) 76 (.agg #[]) "chirograph/suite.key").run Tryz.prog w = .ok (187, .agg #[]) w := by kernel_rfl
theorem sMay_cps (s : Nat) (sa : Value) (xs : List (List UInt8)) (hx : xs.length ≤ 1000000) (hz : ∀ t ∈ xs, t.length ≤ maxLen) (w : World) (ha : Rd w 1 sa xs.length (xs.map strV)) (R : Ending → World → Prop) (hR : ∀ w', Mod [] w w' → R (.returned (.int .i64 (if allS xs = true then 0 else 2))) w') :
    Calls Tryz.prog 105 #[.pointer (some ⟨s, 0, none⟩), sa] w R := by
  obtain ⟨pa, ca, rfl⟩ := ha.slice
  refine calls_go 4000 okT Tryz.func105 rfl (rs := [.tmp 4]) rfl Tryz.ntmps105 (args := [.pointer (some ⟨s, 0, none⟩), .slice pa xs.length ca]) ?_
  simp (maxSteps := 1000000) (disch := first | omega | (simp only [sizeAlloc, sizeDrew, sizeSet, sizePut] <;> omega) | fail) only [GS, TT_eq, TTl, Nat.reduceAdd, Nat.reduceMul, Nat.reduceSub, Nat.reduceDiv, Nat.reduceMod, Nat.reducePow, Nat.reduceEqDiff, ↓reduceIte, reduceCtorEq, Int.reduceToNat, Int.reduceAdd, Int.reduceSub, Int.reduceMul]
  refine hold_loop okT (rs := [.tmp 4]) rfl [11] [4, 6, 12, 13, 14, 15, 16, 17, 18] (fun vs w' => ∃ k : Nat, k ≤ xs.length ∧ vs = [.int .i64 k] ∧ Mod [] w w' ∧ ∀ t ∈ xs.take k, checkS t = 0) (fun vs _ => match vs with | [.int _ i] => xs.length - i.toNat | _ => 0) (by kernel_rfl) ⟨0, by omega, rfl, Mod.refl _ _, by simp⟩ ?_
  rintro vs w1 J ⟨k, hk, rfl, hM, hn⟩
  by_cases hlt : k < xs.length
  · obtain ⟨b1, o1, c1, e1, _, g1⟩ := (ha.mod hM (by simp)).at (by omega) (by omega)
    have f1 : w1.cell? ⟨b1, o1 + k, none⟩ = some (.string ⟨(xs[k]).toArray⟩) := g1 k _ (getS hlt)
    rw [Value.slice.injEq] at e1
    obtain ⟨rfl, -, -⟩ := e1
    have htk := List.take_succ_eq_append_getElem hlt
    have hmem := List.getElem_mem hlt
    generalize xs[k] = t at f1 htk hmem
    simp (maxSteps := 1000000) (disch := first | omega | (simp only [sizeAlloc, sizeDrew, sizeSet, sizePut] <;> omega) | fail) only [GS, TT_eq, TTl, Nat.reduceAdd, Nat.reduceMul, Nat.reduceSub, Nat.reduceDiv, Nat.reduceMod, Nat.reducePow, Nat.reduceEqDiff, ↓reduceIte, reduceCtorEq, Int.reduceToNat, Int.reduceAdd, Int.reduceSub, Int.reduceMul, f1]
    refine ⟨fok72, tCheck_cps t (hz t hmem) _ _ fun w2 hM2 => .inl ⟨_, rfl, hold_ops okT (rs := [.tmp 4]) rfl ?_⟩⟩
    by_cases hc : checkS t = 0
    · simp (maxSteps := 1000000) (disch := first | omega | (simp only [sizeAlloc, sizeDrew, sizeSet, sizePut] <;> omega) | fail) only [GS, TT_eq, TTl, Nat.reduceAdd, Nat.reduceMul, Nat.reduceSub, Nat.reduceDiv, Nat.reduceMod, Nat.reducePow, Nat.reduceEqDiff, ↓reduceIte, reduceCtorEq, Int.reduceToNat, Int.reduceAdd, Int.reduceSub, Int.reduceMul, (decide_eq_true hc)]
      refine ⟨⟨k + 1, by omega, rfl, hM.trans hM2 (by simp), ?_⟩, by omega⟩
      rw [htk]
      intro u hu
      rcases List.mem_append.1 hu with hu | hu
      · exact hn u hu
      · rw [List.mem_singleton.1 hu]; exact hc
    · have hf : allS xs = false := by
        unfold allS
        rw [List.all_eq_false]
        exact ⟨t, hmem, by simpa using hc⟩
      rw [hf] at hR
      simp only [Bool.false_eq_true, if_false] at hR
      simp (maxSteps := 1000000) (disch := first | omega | (simp only [sizeAlloc, sizeDrew, sizeSet, sizePut] <;> omega) | fail) only [GS, TT_eq, TTl, Nat.reduceAdd, Nat.reduceMul, Nat.reduceSub, Nat.reduceDiv, Nat.reduceMod, Nat.reducePow, Nat.reduceEqDiff, ↓reduceIte, reduceCtorEq, Int.reduceToNat, Int.reduceAdd, Int.reduceSub, Int.reduceMul, hc]
      exact hR _ (hM.trans hM2 (by simp))
  · have e : k = xs.length := by omega
    subst e
    rw [List.take_length] at hn
    have ht : allS xs = true := by unfold allS; rw [List.all_eq_true]; intro u hu; simp [hn u hu]
    rw [ht] at hR
    simp only [if_true] at hR
    simp (maxSteps := 1000000) (disch := first | omega | (simp only [sizeAlloc, sizeDrew, sizeSet, sizePut] <;> omega) | fail) only [GS, TT_eq, TTl, Nat.reduceAdd, Nat.reduceMul, Nat.reduceSub, Nat.reduceDiv, Nat.reduceMod, Nat.reducePow, Nat.reduceEqDiff, ↓reduceIte, reduceCtorEq, Int.reduceToNat, Int.reduceAdd, Int.reduceSub, Int.reduceMul]
    exact hR _ hM
theorem mMac (w : World) : (method (Tryz.prog.types.size + Made.depth) 76 (.agg #[]) "chirograph/suite.mac").run Tryz.prog w = .ok (188, .agg #[]) w := by kernel_rfl
theorem sMacT_cps (x y : List UInt8) (hx : x.length ≤ 1000000) (hy : y.length ≤ 1000000) (w : World) (R : Ending → World → Prop) (hR : ∀ w', Mod [] w w' → R (.returned (stV (madeS [109] [x, y]))) w') :
    Calls Tryz.prog 188 #[.agg #[], .string ⟨x.toArray⟩, .string ⟨y.toArray⟩] w R := by
  refine calls_go 4000 okT Tryz.func188 rfl (rs := [.tmp 6, .tmp 7]) rfl Tryz.ntmps188 (args := [.agg #[], .string ⟨x.toArray⟩, .string ⟨y.toArray⟩]) ?_
  simp (maxSteps := 1000000) (disch := first | omega | (simp only [sizeAlloc, sizeDrew, sizeSet, sizePut] <;> omega) | fail) only [GS, TT_eq, TTl, Nat.reduceAdd, Nat.reduceMul, Nat.reduceSub, Nat.reduceDiv, Nat.reduceMod, Nat.reducePow, Nat.reduceEqDiff, ↓reduceIte, reduceCtorEq, Int.reduceToNat, Int.reduceAdd, Int.reduceSub, Int.reduceMul]
  generalize hW : w.alloc (.cells #[] 76) = w1
  have hM0 : Mod [] w w1 := by subst hW; exact (Mod.refl [] w).alloc _
  clear hW
  refine ⟨fok190, tMac_cps x y hx hy _ _ fun w2 hM2 => .inl ⟨_, rfl, hold_ops okT (rs := [.tmp 6, .tmp 7]) rfl ?_⟩⟩
  have hM02 := hM0.trans hM2 (by simp)
  unfold stV at hR ⊢
  simp (maxSteps := 1000000) (disch := first | omega | (simp only [sizeAlloc, sizeDrew, sizeSet, sizePut] <;> omega) | fail) only [GS, TT_eq, TTl, Nat.reduceAdd, Nat.reduceMul, Nat.reduceSub, Nat.reduceDiv, Nat.reduceMod, Nat.reducePow, Nat.reduceEqDiff, ↓reduceIte, reduceCtorEq, Int.reduceToNat, Int.reduceAdd, Int.reduceSub, Int.reduceMul]
  exact hR _ hM02
theorem sSame_cps (s : Nat) (a b : List UInt8) (ha : a.length ≤ maxLen) (w : World) (R : Ending → World → Prop) (hR : ∀ w', Mod [] w w' → R (.returned (.bool (decide (a = b)))) w') :
    Calls Tryz.prog 45 #[.pointer (some ⟨s, 0, none⟩), .string ⟨a.toArray⟩, .string ⟨b.toArray⟩] w R := by
  refine calls_go 4000 okT Tryz.func45 rfl (rs := [.tmp 6]) rfl Tryz.ntmps45 (args := [.pointer (some ⟨s, 0, none⟩), .string ⟨a.toArray⟩, .string ⟨b.toArray⟩]) ?_
  simp (maxSteps := 1000000) (disch := first | omega | (simp only [sizeAlloc, sizeDrew, sizeSet, sizePut] <;> omega) | fail) only [GS, TT_eq, TTl, Nat.reduceAdd, Nat.reduceMul, Nat.reduceSub, Nat.reduceDiv, Nat.reduceMod, Nat.reducePow, Nat.reduceEqDiff, ↓reduceIte, reduceCtorEq, Int.reduceToNat, Int.reduceAdd, Int.reduceSub, Int.reduceMul]
  refine ⟨fok81, hSame_cps a b ha _ _ fun w2 hM2 => .inl ⟨_, rfl, hold_ops okT (rs := [.tmp 6]) rfl ?_⟩⟩
  simp (maxSteps := 1000000) (disch := first | omega | (simp only [sizeAlloc, sizeDrew, sizeSet, sizePut] <;> omega) | fail) only [GS, TT_eq, TTl, Nat.reduceAdd, Nat.reduceMul, Nat.reduceSub, Nat.reduceDiv, Nat.reduceMod, Nat.reducePow, Nat.reduceEqDiff, ↓reduceIte, reduceCtorEq, Int.reduceToNat, Int.reduceAdd, Int.reduceSub, Int.reduceMul]
  exact hR _ hM2
theorem slArr {T : Tab} {m e : Nat} {a : Addr} {j j' : IntKind} {l h : Int} : sliceC T (.arr m e) (.pointer (some a)) (some (.int j l)) (some (.int j' h)) = chk (0 ≤ l ∧ l ≤ h ∧ h ≤ m) (.slice (some (if (m : Int) = l then a else a.add (l.toNat * sizeOf' T e))) (h.toNat - l.toNat) (m - l.toNat)) := Eq.trans rfl rfl
/-- A number turned right. -/
def rotR (x : Int) (n : Nat) : Int := bits .or .u32 (IntKind.u32.wrap (x * 2 ^ (32 - n))) (x.fdiv (2 ^ n))
theorem and31 : ∀ n : Nat, n < 32 → 1 ≤ n → bits BinOp.and IntKind.u64 (IntKind.u64.wrap (-(n : Int))) 31 = ((32 - n : Nat) : Int) := by decide
theorem unNeg {k : IntKind} {n : Int} : unV UnOp.neg (.int k n) = none := rfl
theorem neg32 : ∀ n : Nat, n < 32 → IntKind.i64.wrap (-(n : Int)) = -(n : Int) := by decide
theorem cap32 (m : Nat) (h : m ≤ 32) : capN .u32 m = m := by simp [capN, IntKind.bits]; omega
theorem right_cps (x : Int) (n : Nat) (hn : n < 32) (h1 : 1 ≤ n) (w : World) (R : Ending → World → Prop) (hR : R (.returned (.int .u32 (rotR x n))) w) :
    Calls Tryz.prog 210 #[.int .u32 x, .int .i64 n] w R := by
  refine calls_go 4000 okT Tryz.func210 rfl (rs := [.tmp 4]) rfl Tryz.ntmps210 (args := [.int .u32 x, .int .i64 n]) ?_
  simp (maxSteps := 1000000) (disch := first | omega | (simp only [sizeAlloc, sizeDrew, sizeSet, sizePut] <;> omega) | fail) only [GS, TT_eq, TTl, Nat.reduceAdd, Nat.reduceMul, Nat.reduceSub, Nat.reduceDiv, Nat.reduceMod, Nat.reducePow, Nat.reduceEqDiff, ↓reduceIte, reduceCtorEq, Int.reduceToNat, Int.reduceAdd, Int.reduceSub, Int.reduceMul, unNeg]
  refine hold_val (by simp) (v := .int .i64 (-(n : Int))) (w' := w) ?_ (hold_ops okT (rs := [.tmp 4]) rfl ?_)
  · simp [execOp, ev_eq, Op.unary, Op.intArith]
    show (Sem.run Tryz.prog (pure (Value.int .i64 (IntKind.i64.wrap (-(n : Int))))) w).andThen (fun a w' => Result.ok (Next.value a) w') = _
    rw [neg32 n hn]
    rfl
  simp (maxSteps := 1000000) (disch := first | omega | (simp only [sizeAlloc, sizeDrew, sizeSet, sizePut] <;> omega) | fail) only [GS, TT_eq, TTl, Nat.reduceAdd, Nat.reduceMul, Nat.reduceSub, Nat.reduceDiv, Nat.reduceMod, Nat.reducePow, Nat.reduceEqDiff, ↓reduceIte, reduceCtorEq, Int.reduceToNat, Int.reduceAdd, Int.reduceSub, Int.reduceMul]
  refine ⟨fok211, ?_⟩
  refine calls_go 4000 okT Tryz.func211 rfl (rs := [.tmp 4]) rfl Tryz.ntmps211 (args := [.int .u32 x, .int .i64 (-(n : Int))]) ?_
  have e1 : ((32 - n : Nat) : Int).toNat = 32 - n := by omega
  have e2 : (32 - ((32 - n : Nat) : Int)) = (n : Int) := by omega
  have c1 := cap32 (32 - n) (by omega)
  have c2 := cap32 n (by omega)
  simp (maxSteps := 1000000) (disch := first | omega | (simp only [sizeAlloc, sizeDrew, sizeSet, sizePut] <;> omega) | fail) only [GS, TT_eq, TTl, Nat.reduceAdd, Nat.reduceMul, Nat.reduceSub, Nat.reduceDiv, Nat.reduceMod, Nat.reducePow, Nat.reduceEqDiff, ↓reduceIte, reduceCtorEq, Int.reduceToNat, Int.reduceAdd, Int.reduceSub, Int.reduceMul, and31 n hn h1, c1, c2, e1, e2, Int.toNat_natCast]
  refine .inl ⟨_, rfl, hold_ops okT (rs := [.tmp 4]) rfl ?_⟩
  simp (maxSteps := 1000000) (disch := first | omega | (simp only [sizeAlloc, sizeDrew, sizeSet, sizePut] <;> omega) | fail) only [GS, TT_eq, TTl, Nat.reduceAdd, Nat.reduceMul, Nat.reduceSub, Nat.reduceDiv, Nat.reduceMod, Nat.reducePow, Nat.reduceEqDiff, ↓reduceIte, reduceCtorEq, Int.reduceToNat, Int.reduceAdd, Int.reduceSub, Int.reduceMul]
  exact hR
def u32V (x : Int) : Value := .int .u32 x
def u8V (x : Int) : Value := .int .u8 x
/-- A sum under way, as it stands in memory. -/
def ShaAt (w : World) (h : Nat) (st wt : List Int) (n : Int) : Prop := w.heap[h]? = some (.cells (st.map u32V ++ (wt.map u8V ++ [Value.int .i64 n])).toArray 292 (0, 0)) ∧ st.length = 8 ∧ wt.length = 64
def KTab (w : World) (kt : List Int) : Prop := (∃ tt fr, w.heap[2]? = some (.cells (kt.map u32V).toArray tt fr)) ∧ kt.length = 64
theorem ShaAt.mod0 {w w' : World} {h : Nat} {st wt : List Int} {n : Int} (a : ShaAt w h st wt n) (hM : Mod [] w w') : ShaAt w' h st wt n := ⟨hM.get a.1 (by simp), a.2⟩
theorem KTab.mod {S : List Nat} {w w' : World} {kt : List Int} (a : KTab w kt) (hM : Mod S w w') (h1 : 2 ∉ S) : KTab w' kt := by
  obtain ⟨⟨tt, fr, h⟩, l⟩ := a
  exact ⟨⟨tt, fr, hM.get h h1⟩, l⟩
def getI (l : List Int) (i : Nat) : Int := l.getD i 0
theorem u32_get {l : List Int} {i : Nat} (h : i < l.length) : (l.map u32V)[i]? = some (Value.int .u32 (getI l i)) := by
  rw [List.getElem?_map, List.getElem?_eq_getElem h]; simp [u32V, getI, h]
theorem sha_st {w : World} {h : Nat} {st wt : List Int} {n : Int} (a : ShaAt w h st wt n) {i : Nat} (hi : i < 8) : w.cell? ⟨h, i, none⟩ = some (Value.int .u32 (getI st i)) := by
  rw [cellOf a.1, List.getElem?_toArray, List.getElem?_append_left (by rw [List.length_map, a.2.1]; exact hi), u32_get (by rw [a.2.1]; exact hi)]
theorem sha_wt {w : World} {h : Nat} {st wt : List Int} {n : Int} (a : ShaAt w h st wt n) {i : Nat} (hi : i < 64) : w.cell? ⟨h, 8 + i, none⟩ = some (Value.int .u8 (getI wt i)) := by
  have h1 := a.2.1
  have h2 := a.2.2
  rw [cellOf a.1, List.getElem?_toArray, List.getElem?_append_right (by rw [List.length_map]; omega), List.getElem?_append_left (by rw [List.length_map, List.length_map]; omega), List.length_map, h1, show 8 + i - 8 = i by omega, List.getElem?_map, List.getElem?_eq_getElem (by omega)]
  simp [u8V, getI, h2, hi]
theorem sha_n {w : World} {h : Nat} {st wt : List Int} {n : Int} (a : ShaAt w h st wt n) : w.cell? ⟨h, 72, none⟩ = some (Value.int .i64 n) := by
  have h1 := a.2.1
  have h2 := a.2.2
  rw [cellOf a.1, List.getElem?_toArray, List.getElem?_append_right (by rw [List.length_map]; omega), List.getElem?_append_right (by rw [List.length_map, List.length_map]; omega)]
  simp [h1, h2]
/-- The words of a block. -/
def wdS (t : Nat) (c : Int) (ws : List Int) : List Int := ws.set t (bits .or .u32 (IntKind.u32.wrap (getI ws t * 2 ^ 8)) c)
def wdI (wt : List Int) (t : Nat) : Nat → List Int → List Int
  | 0, ws => ws
  | j + 1, ws => wdS t (getI wt (4 * t + j)) (wdI wt t j ws)
def wdO (wt : List Int) : Nat → List Int
  | 0 => List.replicate 16 0
  | t + 1 => wdI wt t 4 (wdO wt t)
theorem wdI_len (wt : List Int) (t : Nat) : ∀ (j : Nat) (ws : List Int), (wdI wt t j ws).length = ws.length
  | 0, _ => rfl
  | j + 1, ws => by rw [wdI, wdS, List.length_set, wdI_len]
theorem wdO_len (wt : List Int) : ∀ t, (wdO wt t).length = 16
  | 0 => rfl
  | t + 1 => by rw [wdO, wdI_len, wdO_len]
def WsAt (w : World) (b : Nat) (ws : List Int) : Prop := w.heap[b]? = some (.cells (ws.map u32V).toArray 293 (0, 0)) ∧ ws.length = 16
theorem ws_get {w : World} {b : Nat} {ws : List Int} (a : WsAt w b ws) {i : Nat} (hi : i < 16) : w.cell? ⟨b, i, none⟩ = some (Value.int .u32 (getI ws i)) := by
  rw [cellOf a.1, List.getElem?_toArray, u32_get (by rw [a.2]; exact hi)]
theorem ws_set {w : World} {b : Nat} {ws : List Int} (a : WsAt w b ws) {i : Nat} {v : Int} : WsAt (w.setCell ⟨b, i, none⟩ (Value.int .u32 v)) b (ws.set i v) := by
  refine ⟨?_, by rw [List.length_set]; exact a.2⟩
  have := heapSet (o := i) (v := Value.int .u32 v) a.1
  rw [this, List.map_set]
  simp [u32V]
theorem getI_bd {l : List Int} (h : ∀ c ∈ l, 0 ≤ c ∧ c < 256) (i : Nat) : 0 ≤ getI l i ∧ getI l i < 256 := by
  unfold getI
  by_cases hi : i < l.length
  · rw [List.getD_eq_getElem?_getD, List.getElem?_eq_getElem hi]; exact h _ (List.getElem_mem hi)
  · rw [List.getD_eq_getElem?_getD, List.getElem?_eq_none (by omega)]; simp
theorem ktab_get {w : World} {kt : List Int} (a : KTab w kt) {i : Nat} (hi : i < 64) : w.cell? ⟨2, i, none⟩ = some (Value.int .u32 (getI kt i)) := by
  obtain ⟨⟨tt, fr, h⟩, l⟩ := a
  rw [cellOf h, List.getElem?_toArray, u32_get (by rw [l]; exact hi)]
/-- The rounds. -/
def mixV (x y u v : Int) : Int := IntKind.u32.wrap (u + IntKind.u32.wrap (IntKind.u32.wrap (bits BinOp.xor IntKind.u32 (bits BinOp.xor IntKind.u32 (rotR x 7) (rotR x 18)) (x.fdiv (2 ^ 3)) + v) + bits BinOp.xor IntKind.u32 (bits BinOp.xor IntKind.u32 (rotR y 17) (rotR y 19)) (y.fdiv (2 ^ 10))))
def mixS (ws : List Int) (t : Nat) : List Int := if 16 ≤ t then ws.set (t % 16) (mixV (getI ws ((t + 1) % 16)) (getI ws ((t + 14) % 16)) (getI ws (t % 16)) (getI ws ((t + 9) % 16))) else ws
structure Rs where
  a : Int
  b : Int
  c : Int
  d : Int
  e : Int
  f : Int
  g : Int
  i : Int
  ws : List Int
def oneV (k u e f g i : Int) : Int := IntKind.u32.wrap (IntKind.u32.wrap (IntKind.u32.wrap (IntKind.u32.wrap (i + bits BinOp.xor IntKind.u32 (bits BinOp.xor IntKind.u32 (rotR e 6) (rotR e 11)) (rotR e 25)) + bits BinOp.xor IntKind.u32 g (bits BinOp.and IntKind.u32 e (bits BinOp.xor IntKind.u32 f g))) + k) + u)
def twoV (a b c : Int) : Int := IntKind.u32.wrap (bits BinOp.xor IntKind.u32 (bits BinOp.xor IntKind.u32 (rotR a 2) (rotR a 13)) (rotR a 22) + bits BinOp.or IntKind.u32 (bits BinOp.and IntKind.u32 a (bits BinOp.or IntKind.u32 b c)) (bits BinOp.and IntKind.u32 b c))
def rdS (kt : List Int) (t : Nat) (s : Rs) : Rs :=
  ⟨IntKind.u32.wrap (oneV (getI kt t) (getI (mixS s.ws t) (t % 16)) s.e s.f s.g s.i + twoV s.a s.b s.c), s.a, s.b, s.c, IntKind.u32.wrap (s.d + oneV (getI kt t) (getI (mixS s.ws t) (t % 16)) s.e s.f s.g s.i), s.e, s.f, s.g, mixS s.ws t⟩
def rdF (kt : List Int) (s : Rs) : Nat → Rs
  | 0 => s
  | t + 1 => rdS kt t (rdF kt s t)
def rd0 (st ws : List Int) : Rs := ⟨getI st 0, getI st 1, getI st 2, getI st 3, getI st 4, getI st 5, getI st 6, getI st 7, ws⟩
theorem pick8 : ∀ (l : List Int) (k : Nat), k < l.length → one (tke 1 (drp k (l.map u32V))) = some (.int .u32 (getI l k))
  | [], k, h => absurd h (by simp)
  | x :: l, 0, _ => rfl
  | x :: l, k + 1, h => by
    have := pick8 l k (by simpa using h)
    rw [List.map_cons]
    exact this
theorem sha_set {w : World} {h : Nat} {st wt : List Int} {n : Int} (a : ShaAt w h st wt n) {k : Nat} {v : Int} (hk : k < 8) : ShaAt (w.setCell ⟨h, k, none⟩ (Value.int .u32 v)) h (st.set k v) wt n := by
  refine ⟨?_, by rw [List.length_set]; exact a.2.1, a.2.2⟩
  have := heapSet (o := k) (v := Value.int .u32 v) a.1
  rw [this, List.map_set, ← List.set_append_left _ _ (by rw [List.length_map, a.2.1]; exact hk)]
  simp [u32V]
def rsL (s : Rs) : List Int := [s.a, s.b, s.c, s.d, s.e, s.f, s.g, s.i]
def upS (st rs : List Int) : Nat → List Int
  | 0 => st
  | k + 1 => (upS st rs k).set k (IntKind.u32.wrap (getI (upS st rs k) k + getI rs k))
/-- What a block makes of the state. -/
def takF (kt st wt : List Int) : List Int := upS st (rsL (rdF kt (rd0 st (wdO wt 16)) 64)) 8
theorem take_cps (h : Nat) (st wt kt : List Int) (n : Int) (hb : ∀ c ∈ wt, 0 ≤ c ∧ c < 256) (w : World) (hS : ShaAt w h st wt n) (hK : KTab w kt) (R : Ending → World → Prop)
    (hR : ∀ w', ShaAt w' h (takF kt st wt) wt n → Mod [h] w w' → R (.returned (.tuple #[])) w') :
    Calls Tryz.prog 209 #[.pointer (some ⟨h, 0, none⟩)] w R := by
  refine calls_go 4000 okT Tryz.func209 rfl (rs := []) rfl Tryz.ntmps209 (args := [.pointer (some ⟨h, 0, none⟩)]) ?_
  simp (maxSteps := 1000000) (disch := first | omega | (simp only [sizeAlloc, sizeDrew, sizeSet, sizePut] <;> omega) | fail) only [GS, TT_eq, TTl, Nat.reduceAdd, Nat.reduceMul, Nat.reduceSub, Nat.reduceDiv, Nat.reduceMod, Nat.reducePow, Nat.reduceEqDiff, ↓reduceIte, reduceCtorEq, Int.reduceToNat, Int.reduceAdd, Int.reduceSub, Int.reduceMul]
  have hb1 : h < w.heap.size := ltOf hS.1
  have hw0 : WsAt (w.alloc (.cells (List.replicate 16 (Value.int .u32 0)).toArray 293)) w.heap.size (wdO wt 0) := ⟨by
    have := heapNew (w := w) (o := .cells (List.replicate 16 (Value.int .u32 0)).toArray 293)
    exact this, rfl⟩
  have hM0 := (Mod.refl [] w).alloc (.cells (List.replicate 16 (Value.int .u32 0)).toArray 293)
  simp only [List.replicate] at hw0 hM0
  refine hold_loop okT (rs := []) rfl [21] [3, 5, 22, 23, 24, 25, 26, 27, 28, 29, 30, 31, 32, 33, 34, 35, 36, 37, 38, 39, 40, 41, 42, 43, 44, 45, 46, 47, 48] (fun vs w' => ∃ (t : Nat), t ≤ 16 ∧ vs = [.int .i64 t] ∧ WsAt w' w.heap.size (wdO wt t) ∧ Mod [] w w') (fun vs _ => match vs with | [.int _ i] => 16 - i.toNat | _ => 0) (by kernel_rfl) ⟨0, by omega, rfl, hw0, hM0⟩ ?_
  clear hw0 hM0
  rintro vs w1 J ⟨t, ht, rfl, hw, hM⟩
  have hS1 := hS.mod0 hM
  by_cases hlt : t < 16
  · have e1 : (if (64 : Int) = 4 * (t : Int) then (⟨h, 8, none⟩ : Addr) else (⟨h, 8, none⟩ : Addr).add (4 * (t : Int)).toNat) = ⟨h, 8 + 4 * t, none⟩ := by
      rw [if_neg (by omega), show (4 * (t : Int)).toNat = 4 * t by omega]; simp [Addr.add]; try omega
    have e2 : (4 * (t : Int) + 4).toNat - (4 * (t : Int)).toNat = 4 := by omega
    simp (maxSteps := 1000000) (disch := first | omega | (simp only [sizeAlloc, sizeDrew, sizeSet, sizePut] <;> omega) | fail) only [GS, TT_eq, TTl, Nat.reduceAdd, Nat.reduceMul, Nat.reduceSub, Nat.reduceDiv, Nat.reduceMod, Nat.reducePow, Nat.reduceEqDiff, ↓reduceIte, reduceCtorEq, Int.reduceToNat, Int.reduceAdd, Int.reduceSub, Int.reduceMul, slArr, e1, e2]
    refine hold_loop okT (rs := []) rfl [34] [5, 35, 36, 37, 38, 39, 40, 41, 42, 43, 44, 45, 46, 47] (fun vs w' => ∃ (j : Nat), j ≤ 4 ∧ vs = [.int .i64 j] ∧ WsAt w' w.heap.size (wdI wt t j (wdO wt t)) ∧ Mod [] w w') (fun vs _ => match vs with | [.int _ i] => 4 - i.toNat | _ => 0) (by kernel_rfl) ⟨0, by omega, rfl, hw, hM⟩ ?_
    rintro vs w2 J2 ⟨j, hj, rfl, hw2, hM2⟩
    have hS2 := hS.mod0 hM2
    by_cases hlj : j < 4
    · have c1 := sha_wt hS2 (i := 4 * t + j) (by omega)
      have hc := getI_bd hb (4 * t + j)
      have c2 := ws_get hw2 hlt
      rw [show 8 + (4 * t + j) = 8 + 4 * t + j by omega] at c1
      have c3 : w2.frozen? ⟨w.heap.size, t, none⟩ = false := frozenOf hw2.1
      have c4 : capN .u32 8 = 8 := cap32 8 (by omega)
      simp (maxSteps := 1000000) (disch := first | omega | (simp only [sizeAlloc, sizeDrew, sizeSet, sizePut] <;> omega) | fail) only [GS, TT_eq, TTl, Nat.reduceAdd, Nat.reduceMul, Nat.reduceSub, Nat.reduceDiv, Nat.reduceMod, Nat.reducePow, Nat.reduceEqDiff, ↓reduceIte, reduceCtorEq, Int.reduceToNat, Int.reduceAdd, Int.reduceSub, Int.reduceMul, c1, c2, c3, c4]
      refine ⟨⟨j + 1, by omega, rfl, ws_set hw2, hM2.set (.inr (Nat.le_refl _)) _⟩, by omega⟩
    have ej : j = 4 := by omega
    subst ej
    simp (maxSteps := 1000000) (disch := first | omega | (simp only [sizeAlloc, sizeDrew, sizeSet, sizePut] <;> omega) | fail) only [GS, TT_eq, TTl, Nat.reduceAdd, Nat.reduceMul, Nat.reduceSub, Nat.reduceDiv, Nat.reduceMod, Nat.reducePow, Nat.reduceEqDiff, ↓reduceIte, reduceCtorEq, Int.reduceToNat, Int.reduceAdd, Int.reduceSub, Int.reduceMul]
    exact ⟨⟨t + 1, by omega, rfl, hw2, hM2⟩, by omega⟩
  have et : t = 16 := by omega
  subst et
  have hws : (wdO wt 16).length = 16 := wdO_len wt 16
  unfold takF at hR
  generalize wdO wt 16 = ws0 at *
  clear hlt ht
  have s0 := sha_st hS1 (i := 0) (by omega)
  have s1 := sha_st hS1 (i := 1) (by omega)
  have s2 := sha_st hS1 (i := 2) (by omega)
  have s3 := sha_st hS1 (i := 3) (by omega)
  have s4 := sha_st hS1 (i := 4) (by omega)
  have s5 := sha_st hS1 (i := 5) (by omega)
  have s6 := sha_st hS1 (i := 6) (by omega)
  have s7 := sha_st hS1 (i := 7) (by omega)
  simp (maxSteps := 1000000) (disch := first | omega | (simp only [sizeAlloc, sizeDrew, sizeSet, sizePut] <;> omega) | fail) only [GS, TT_eq, TTl, Nat.reduceAdd, Nat.reduceMul, Nat.reduceSub, Nat.reduceDiv, Nat.reduceMod, Nat.reducePow, Nat.reduceEqDiff, ↓reduceIte, reduceCtorEq, Int.reduceToNat, Int.reduceAdd, Int.reduceSub, Int.reduceMul, s0, s1, s2, s3, s4, s5, s6, s7]
  refine ⟨by kernel_rfl, fun m => ?_⟩
  have hD := (Mod.refl [] w1).drewN m
  have hw3 : WsAt (w1.drewN m) w.heap.size ws0 := ⟨hD.get hw.1 (by simp), hw.2⟩
  have hM3 := hM.trans hD (by simp)
  clear hw hM hS1 s0 s1 s2 s3 s4 s5 s6 s7 hD
  generalize w1.drewN m = w3 at *
  refine hold_loop okT (rs := []) rfl [6, 7, 8, 9, 10, 11, 12, 13, 89] [14, 15, 16, 17, 18, 90, 91, 92, 93, 94, 95, 96, 97, 98, 99, 100, 101, 102, 103, 104, 105, 106, 107, 108, 109, 110, 111, 112, 113, 114, 115, 116, 117, 118, 119, 120, 121, 122, 123, 124, 125, 126, 127, 128, 129, 130, 131, 132, 133, 134, 135, 136, 137, 138, 139, 140, 141, 142, 143, 144, 145, 146, 147, 148, 149, 150, 151, 152, 153, 154, 155, 156, 157, 158, 159, 160, 161, 162, 163, 164, 165, 166, 167, 168, 169, 170, 171, 172, 173, 174, 175, 176, 177, 178, 179, 180, 181, 182, 183, 184, 185, 186, 187, 188, 189, 190] (fun vs w' => ∃ (t : Nat) (a b c d e f g i : Int) (ws : List Int), t ≤ 64 ∧ vs = [.int .u32 a, .int .u32 b, .int .u32 c, .int .u32 d, .int .u32 e, .int .u32 f, .int .u32 g, .int .u32 i, .int .i64 t] ∧ rdF kt (rd0 st ws0) t = ⟨a, b, c, d, e, f, g, i, ws⟩ ∧ WsAt w' w.heap.size ws ∧ Mod [] w w') (fun vs _ => match vs with | [_, _, _, _, _, _, _, _, .int _ i] => 64 - i.toNat | _ => 0) (by kernel_rfl) ⟨0, _, _, _, _, _, _, _, _, _, by omega, rfl, rfl, hw3, hM3⟩ ?_
  rintro vs w4 J4 ⟨t, a, b, c, d, e, f, g, i, ws, ht, rfl, hr, hw, hM⟩
  have hS4 := hS.mod0 hM
  have e4 : (t : Int).tmod 16 = ((t % 16 : Nat) : Int) := (Int.ofNat_tmod t 16).symm
  by_cases hlt : t < 64
  · by_cases h16 : 16 ≤ t
--A
    · have e1 : ((t : Int) + 1).tmod 16 = (((t + 1) % 16 : Nat) : Int) := (Int.ofNat_tmod (t + 1) 16).symm
      have e2 : ((t : Int) + 14).tmod 16 = (((t + 14) % 16 : Nat) : Int) := (Int.ofNat_tmod (t + 14) 16).symm
      have e3 : ((t : Int) + 9).tmod 16 = (((t + 9) % 16 : Nat) : Int) := (Int.ofNat_tmod (t + 9) 16).symm
      have l1 := ws_get hw (i := (t + 1) % 16) (by omega)
      have l2 := ws_get hw (i := (t + 14) % 16) (by omega)
      have hmx : mixS ws t = ws.set (t % 16) (mixV (getI ws ((t + 1) % 16)) (getI ws ((t + 14) % 16)) (getI ws (t % 16)) (getI ws ((t + 9) % 16))) := by unfold mixS; rw [if_pos h16]
      simp (maxSteps := 1000000) (disch := first | omega | (simp only [sizeAlloc, sizeDrew, sizeSet, sizePut] <;> omega) | fail) only [GS, TT_eq, TTl, Nat.reduceAdd, Nat.reduceMul, Nat.reduceSub, Nat.reduceDiv, Nat.reduceMod, Nat.reducePow, Nat.reduceEqDiff, ↓reduceIte, reduceCtorEq, Int.reduceToNat, Int.reduceAdd, Int.reduceSub, Int.reduceMul, e1, e2, l1, l2, Int.toNat_natCast]
      refine ⟨by kernel_rfl, fun m => ?_⟩
      have hD := (Mod.refl [] w4).drewN m
      have hw5 : WsAt (w4.drewN m) w.heap.size ws := ⟨hD.get hw.1 (by simp), hw.2⟩
      have hM5 := hM.trans hD (by simp)
      clear hw hM hS4 l1 l2 hD
      generalize w4.drewN m = w5 at *
      generalize getI ws ((t + 1) % 16) = x at *
      generalize getI ws ((t + 14) % 16) = y at *
      refine hold_draw okT (rs := []) rfl [0, 1, 3, 7, 0, 16, 0, 112, 240, 0, 512, 2032, 0, 4096, 12288, 28672, 61440, 131056, 0, 262384, 0, 1835248, 3932400, 0, 8388608, 33292528, 67108848, 134217727, 268435455, 536870911] [0, 1, 2, 3, 4, 6, 9, 10, 12, 13, 14, 15, 16, 18, 20, 23, 24, 5, 7, 8, 11, 17, 19, 21, 22, 25, 26, 27, 28, 29] (by kernel_rfl) (by kernel_rfl) ?_
      have hD := (Mod.refl [] w5).drewN 1
      replace hw5 : WsAt (w5.drewN 1) w.heap.size ws := ⟨hD.get hw5.1 (by simp), hw5.2⟩
      replace hM5 := hM5.trans hD (by simp)
      clear hD
      generalize w5.drewN 1 = w6 at *
      have l3 := ws_get hw5 (i := (t + 9) % 16) (by omega)
      have l4 := ws_get hw5 (i := t % 16) (by omega)
      simp (maxSteps := 1000000) (disch := first | omega | (simp only [sizeAlloc, sizeDrew, sizeSet, sizePut] <;> omega) | fail) only [GS, TT_eq, TTl, Nat.reduceAdd, Nat.reduceMul, Nat.reduceSub, Nat.reduceDiv, Nat.reduceMod, Nat.reducePow, Nat.reduceEqDiff, ↓reduceIte, reduceCtorEq, Int.reduceToNat, Int.reduceAdd, Int.reduceSub, Int.reduceMul, e3, e4, l3, l4, Int.toNat_natCast]
      refine ⟨fok210, right_cps x 7 (by omega) (by omega) _ _ (.inl ⟨_, rfl, ⟨l3, l4⟩, hold_dops okT (rs := []) rfl ?_⟩)⟩
      simp (maxSteps := 1000000) (disch := first | omega | (simp only [sizeAlloc, sizeDrew, sizeSet, sizePut] <;> omega) | fail) only [GS, TT_eq, TTl, Nat.reduceAdd, Nat.reduceMul, Nat.reduceSub, Nat.reduceDiv, Nat.reduceMod, Nat.reducePow, Nat.reduceEqDiff, ↓reduceIte, reduceCtorEq, Int.reduceToNat, Int.reduceAdd, Int.reduceSub, Int.reduceMul]
      refine ⟨fok210, right_cps x 18 (by omega) (by omega) _ _ (.inl ⟨_, rfl, ⟨l3, l4⟩, hold_dops okT (rs := []) rfl ?_⟩)⟩
      simp (maxSteps := 1000000) (disch := first | omega | (simp only [sizeAlloc, sizeDrew, sizeSet, sizePut] <;> omega) | fail) only [GS, TT_eq, TTl, Nat.reduceAdd, Nat.reduceMul, Nat.reduceSub, Nat.reduceDiv, Nat.reduceMod, Nat.reducePow, Nat.reduceEqDiff, ↓reduceIte, reduceCtorEq, Int.reduceToNat, Int.reduceAdd, Int.reduceSub, Int.reduceMul]
      refine ⟨fok210, right_cps y 17 (by omega) (by omega) _ _ (.inl ⟨_, rfl, ⟨l3, l4⟩, hold_dops okT (rs := []) rfl ?_⟩)⟩
      simp (maxSteps := 1000000) (disch := first | omega | (simp only [sizeAlloc, sizeDrew, sizeSet, sizePut] <;> omega) | fail) only [GS, TT_eq, TTl, Nat.reduceAdd, Nat.reduceMul, Nat.reduceSub, Nat.reduceDiv, Nat.reduceMod, Nat.reducePow, Nat.reduceEqDiff, ↓reduceIte, reduceCtorEq, Int.reduceToNat, Int.reduceAdd, Int.reduceSub, Int.reduceMul]
      refine ⟨fok210, right_cps y 19 (by omega) (by omega) _ _ (.inl ⟨_, rfl, ⟨l3, l4⟩, hold_dops okT (rs := []) rfl ?_⟩)⟩
      have f4 : w6.frozen? ⟨w.heap.size, t % 16, none⟩ = false := frozenOf hw5.1
      have cp3 := cap32 3 (by omega)
      have cp10 := cap32 10 (by omega)
      simp (maxSteps := 1000000) (disch := first | omega | (simp only [sizeAlloc, sizeDrew, sizeSet, sizePut] <;> omega) | fail) only [GS, TT_eq, TTl, Nat.reduceAdd, Nat.reduceMul, Nat.reduceSub, Nat.reduceDiv, Nat.reduceMod, Nat.reducePow, Nat.reduceEqDiff, ↓reduceIte, reduceCtorEq, Int.reduceToNat, Int.reduceAdd, Int.reduceSub, Int.reduceMul, cp3, cp10, f4, l4]
      have hw7 : WsAt (w6.setCell ⟨w.heap.size, t % 16, none⟩ (.int .u32 (mixV x y (getI ws (t % 16)) (getI ws ((t + 9) % 16))))) w.heap.size (mixS ws t) := by rw [hmx]; exact ws_set hw5
      have hM7 : Mod [] w (w6.setCell ⟨w.heap.size, t % 16, none⟩ (.int .u32 (mixV x y (getI ws (t % 16)) (getI ws ((t + 9) % 16))))) := hM5.set (.inr (Nat.le_refl _)) _
      unfold mixV at hw7 hM7
      generalize hws' : mixS ws t = ws' at *
      clear l3 l4 f4 hw5 hM5
      generalize w6.setCell _ _ = w7 at *
      have k7 := ktab_get (hK.mod hM7 (by simp)) hlt
      have l7 := ws_get hw7 (i := t % 16) (by omega)
      refine hold_draw okT (rs := []) rfl [0, 0, 2, 0, 14, 30, 0, 94, 254, 511, 0, 0, 0, 0, 12288, 30720, 64512, 131071, 0, 262144, 786432, 2097151, 0, 4194304, 12582912, 29360128, 67108863, 134217727] [0, 1, 3, 6, 10, 11, 12, 13, 14, 15, 16, 18, 19, 20, 22, 23, 24, 25, 2, 4, 5, 7, 8, 9, 17, 21, 26, 27] (by kernel_rfl) (by kernel_rfl) ?_
      have hD := (Mod.refl [] w7).drewN 1
      replace hw7 : WsAt (w7.drewN 1) w.heap.size ws' := ⟨hD.get hw7.1 (by simp), hw7.2⟩
      replace hM7 := hM7.trans hD (by simp)
      replace k7 : (w7.drewN 1).cell? ⟨2, t, none⟩ = some (.int .u32 (getI kt t)) := ktab_get (hK.mod hM7 (by simp)) hlt
      replace l7 := ws_get hw7 (i := t % 16) (by omega)
      clear hD
      generalize w7.drewN 1 = w8 at *
      simp (maxSteps := 1000000) (disch := first | omega | (simp only [sizeAlloc, sizeDrew, sizeSet, sizePut] <;> omega) | fail) only [GS, TT_eq, TTl, Nat.reduceAdd, Nat.reduceMul, Nat.reduceSub, Nat.reduceDiv, Nat.reduceMod, Nat.reducePow, Nat.reduceEqDiff, ↓reduceIte, reduceCtorEq, Int.reduceToNat, Int.reduceAdd, Int.reduceSub, Int.reduceMul, e4, k7, l7, Int.toNat_natCast]
      refine ⟨fok210, right_cps e 6 (by omega) (by omega) _ _ (.inl ⟨_, rfl, ⟨l7, k7⟩, hold_dops okT (rs := []) rfl ?_⟩)⟩
      simp (maxSteps := 1000000) (disch := first | omega | (simp only [sizeAlloc, sizeDrew, sizeSet, sizePut] <;> omega) | fail) only [GS, TT_eq, TTl, Nat.reduceAdd, Nat.reduceMul, Nat.reduceSub, Nat.reduceDiv, Nat.reduceMod, Nat.reducePow, Nat.reduceEqDiff, ↓reduceIte, reduceCtorEq, Int.reduceToNat, Int.reduceAdd, Int.reduceSub, Int.reduceMul]
      refine ⟨fok210, right_cps e 11 (by omega) (by omega) _ _ (.inl ⟨_, rfl, ⟨l7, k7⟩, hold_dops okT (rs := []) rfl ?_⟩)⟩
      simp (maxSteps := 1000000) (disch := first | omega | (simp only [sizeAlloc, sizeDrew, sizeSet, sizePut] <;> omega) | fail) only [GS, TT_eq, TTl, Nat.reduceAdd, Nat.reduceMul, Nat.reduceSub, Nat.reduceDiv, Nat.reduceMod, Nat.reducePow, Nat.reduceEqDiff, ↓reduceIte, reduceCtorEq, Int.reduceToNat, Int.reduceAdd, Int.reduceSub, Int.reduceMul]
      refine ⟨fok210, right_cps e 25 (by omega) (by omega) _ _ (.inl ⟨_, rfl, ⟨l7, k7⟩, hold_dops okT (rs := []) rfl ?_⟩)⟩
      simp (maxSteps := 1000000) (disch := first | omega | (simp only [sizeAlloc, sizeDrew, sizeSet, sizePut] <;> omega) | fail) only [GS, TT_eq, TTl, Nat.reduceAdd, Nat.reduceMul, Nat.reduceSub, Nat.reduceDiv, Nat.reduceMod, Nat.reducePow, Nat.reduceEqDiff, ↓reduceIte, reduceCtorEq, Int.reduceToNat, Int.reduceAdd, Int.reduceSub, Int.reduceMul]
      refine ⟨fok210, right_cps a 2 (by omega) (by omega) _ _ (.inl ⟨_, rfl, hold_ops okT (rs := []) rfl ?_⟩)⟩
      simp (maxSteps := 1000000) (disch := first | omega | (simp only [sizeAlloc, sizeDrew, sizeSet, sizePut] <;> omega) | fail) only [GS, TT_eq, TTl, Nat.reduceAdd, Nat.reduceMul, Nat.reduceSub, Nat.reduceDiv, Nat.reduceMod, Nat.reducePow, Nat.reduceEqDiff, ↓reduceIte, reduceCtorEq, Int.reduceToNat, Int.reduceAdd, Int.reduceSub, Int.reduceMul]
      refine ⟨fok210, right_cps a 13 (by omega) (by omega) _ _ (.inl ⟨_, rfl, hold_ops okT (rs := []) rfl ?_⟩)⟩
      simp (maxSteps := 1000000) (disch := first | omega | (simp only [sizeAlloc, sizeDrew, sizeSet, sizePut] <;> omega) | fail) only [GS, TT_eq, TTl, Nat.reduceAdd, Nat.reduceMul, Nat.reduceSub, Nat.reduceDiv, Nat.reduceMod, Nat.reducePow, Nat.reduceEqDiff, ↓reduceIte, reduceCtorEq, Int.reduceToNat, Int.reduceAdd, Int.reduceSub, Int.reduceMul]
      refine ⟨fok210, right_cps a 22 (by omega) (by omega) _ _ (.inl ⟨_, rfl, hold_ops okT (rs := []) rfl ?_⟩)⟩
      simp (maxSteps := 1000000) (disch := first | omega | (simp only [sizeAlloc, sizeDrew, sizeSet, sizePut] <;> omega) | fail) only [GS, TT_eq, TTl, Nat.reduceAdd, Nat.reduceMul, Nat.reduceSub, Nat.reduceDiv, Nat.reduceMod, Nat.reducePow, Nat.reduceEqDiff, ↓reduceIte, reduceCtorEq, Int.reduceToNat, Int.reduceAdd, Int.reduceSub, Int.reduceMul]
      refine ⟨⟨t + 1, _, _, _, _, _, _, _, _, ws', by omega, rfl, ?_, hw7, hM7⟩, by omega⟩
      rw [rdF, hr]
      unfold rdS
      rw [hws']
      rfl
    · have hw7 := hw
      have hM7 := hM
      have hmx : mixS ws t = ws := by unfold mixS; rw [if_neg h16]
      rw [← hmx] at hw7
      clear hw hM hS4
      generalize hws' : mixS ws t = ws' at *
      generalize w4 = w7 at *
      simp (maxSteps := 1000000) (disch := first | omega | (simp only [sizeAlloc, sizeDrew, sizeSet, sizePut] <;> omega) | fail) only [GS, TT_eq, TTl, Nat.reduceAdd, Nat.reduceMul, Nat.reduceSub, Nat.reduceDiv, Nat.reduceMod, Nat.reducePow, Nat.reduceEqDiff, ↓reduceIte, reduceCtorEq, Int.reduceToNat, Int.reduceAdd, Int.reduceSub, Int.reduceMul]
      have k7 := ktab_get (hK.mod hM7 (by simp)) hlt
      have l7 := ws_get hw7 (i := t % 16) (by omega)
      refine hold_draw okT (rs := []) rfl [0, 0, 2, 0, 14, 30, 0, 94, 254, 511, 0, 0, 0, 0, 12288, 30720, 64512, 131071, 0, 262144, 786432, 2097151, 0, 4194304, 12582912, 29360128, 67108863, 134217727] [0, 1, 3, 6, 10, 11, 12, 13, 14, 15, 16, 18, 19, 20, 22, 23, 24, 25, 2, 4, 5, 7, 8, 9, 17, 21, 26, 27] (by kernel_rfl) (by kernel_rfl) ?_
      have hD := (Mod.refl [] w7).drewN 1
      replace hw7 : WsAt (w7.drewN 1) w.heap.size ws' := ⟨hD.get hw7.1 (by simp), hw7.2⟩
      replace hM7 := hM7.trans hD (by simp)
      replace k7 : (w7.drewN 1).cell? ⟨2, t, none⟩ = some (.int .u32 (getI kt t)) := ktab_get (hK.mod hM7 (by simp)) hlt
      replace l7 := ws_get hw7 (i := t % 16) (by omega)
      clear hD
      generalize w7.drewN 1 = w8 at *
      simp (maxSteps := 1000000) (disch := first | omega | (simp only [sizeAlloc, sizeDrew, sizeSet, sizePut] <;> omega) | fail) only [GS, TT_eq, TTl, Nat.reduceAdd, Nat.reduceMul, Nat.reduceSub, Nat.reduceDiv, Nat.reduceMod, Nat.reducePow, Nat.reduceEqDiff, ↓reduceIte, reduceCtorEq, Int.reduceToNat, Int.reduceAdd, Int.reduceSub, Int.reduceMul, e4, k7, l7, Int.toNat_natCast]
      refine ⟨fok210, right_cps e 6 (by omega) (by omega) _ _ (.inl ⟨_, rfl, ⟨l7, k7⟩, hold_dops okT (rs := []) rfl ?_⟩)⟩
      simp (maxSteps := 1000000) (disch := first | omega | (simp only [sizeAlloc, sizeDrew, sizeSet, sizePut] <;> omega) | fail) only [GS, TT_eq, TTl, Nat.reduceAdd, Nat.reduceMul, Nat.reduceSub, Nat.reduceDiv, Nat.reduceMod, Nat.reducePow, Nat.reduceEqDiff, ↓reduceIte, reduceCtorEq, Int.reduceToNat, Int.reduceAdd, Int.reduceSub, Int.reduceMul]
      refine ⟨fok210, right_cps e 11 (by omega) (by omega) _ _ (.inl ⟨_, rfl, ⟨l7, k7⟩, hold_dops okT (rs := []) rfl ?_⟩)⟩
      simp (maxSteps := 1000000) (disch := first | omega | (simp only [sizeAlloc, sizeDrew, sizeSet, sizePut] <;> omega) | fail) only [GS, TT_eq, TTl, Nat.reduceAdd, Nat.reduceMul, Nat.reduceSub, Nat.reduceDiv, Nat.reduceMod, Nat.reducePow, Nat.reduceEqDiff, ↓reduceIte, reduceCtorEq, Int.reduceToNat, Int.reduceAdd, Int.reduceSub, Int.reduceMul]
      refine ⟨fok210, right_cps e 25 (by omega) (by omega) _ _ (.inl ⟨_, rfl, ⟨l7, k7⟩, hold_dops okT (rs := []) rfl ?_⟩)⟩
      simp (maxSteps := 1000000) (disch := first | omega | (simp only [sizeAlloc, sizeDrew, sizeSet, sizePut] <;> omega) | fail) only [GS, TT_eq, TTl, Nat.reduceAdd, Nat.reduceMul, Nat.reduceSub, Nat.reduceDiv, Nat.reduceMod, Nat.reducePow, Nat.reduceEqDiff, ↓reduceIte, reduceCtorEq, Int.reduceToNat, Int.reduceAdd, Int.reduceSub, Int.reduceMul]
      refine ⟨fok210, right_cps a 2 (by omega) (by omega) _ _ (.inl ⟨_, rfl, hold_ops okT (rs := []) rfl ?_⟩)⟩
      simp (maxSteps := 1000000) (disch := first | omega | (simp only [sizeAlloc, sizeDrew, sizeSet, sizePut] <;> omega) | fail) only [GS, TT_eq, TTl, Nat.reduceAdd, Nat.reduceMul, Nat.reduceSub, Nat.reduceDiv, Nat.reduceMod, Nat.reducePow, Nat.reduceEqDiff, ↓reduceIte, reduceCtorEq, Int.reduceToNat, Int.reduceAdd, Int.reduceSub, Int.reduceMul]
      refine ⟨fok210, right_cps a 13 (by omega) (by omega) _ _ (.inl ⟨_, rfl, hold_ops okT (rs := []) rfl ?_⟩)⟩
      simp (maxSteps := 1000000) (disch := first | omega | (simp only [sizeAlloc, sizeDrew, sizeSet, sizePut] <;> omega) | fail) only [GS, TT_eq, TTl, Nat.reduceAdd, Nat.reduceMul, Nat.reduceSub, Nat.reduceDiv, Nat.reduceMod, Nat.reducePow, Nat.reduceEqDiff, ↓reduceIte, reduceCtorEq, Int.reduceToNat, Int.reduceAdd, Int.reduceSub, Int.reduceMul]
      refine ⟨fok210, right_cps a 22 (by omega) (by omega) _ _ (.inl ⟨_, rfl, hold_ops okT (rs := []) rfl ?_⟩)⟩
      simp (maxSteps := 1000000) (disch := first | omega | (simp only [sizeAlloc, sizeDrew, sizeSet, sizePut] <;> omega) | fail) only [GS, TT_eq, TTl, Nat.reduceAdd, Nat.reduceMul, Nat.reduceSub, Nat.reduceDiv, Nat.reduceMod, Nat.reducePow, Nat.reduceEqDiff, ↓reduceIte, reduceCtorEq, Int.reduceToNat, Int.reduceAdd, Int.reduceSub, Int.reduceMul]
      refine ⟨⟨t + 1, _, _, _, _, _, _, _, _, ws', by omega, rfl, ?_, hw7, hM7⟩, by omega⟩
      rw [rdF, hr]
      unfold rdS
      rw [hws']
      rfl
  have et : t = 64 := by omega
  subst et
  clear hlt ht
  have hS4 := hS.mod0 hM
  have hr' : rsL (rdF kt (rd0 st ws0) 64) = [a, b, c, d, e, f, g, i] := by rw [hr]; rfl
  simp (maxSteps := 1000000) (disch := first | omega | (simp only [sizeAlloc, sizeDrew, sizeSet, sizePut] <;> omega) | fail) only [GS, TT_eq, TTl, Nat.reduceAdd, Nat.reduceMul, Nat.reduceSub, Nat.reduceDiv, Nat.reduceMod, Nat.reducePow, Nat.reduceEqDiff, ↓reduceIte, reduceCtorEq, Int.reduceToNat, Int.reduceAdd, Int.reduceSub, Int.reduceMul]
  refine hold_loop okT (rs := []) rfl [200] [19, 20, 201, 202, 203, 204, 205, 206, 207, 208, 209, 210, 211, 212, 213, 214, 215] (fun vs w' => ∃ (k : Nat), k ≤ 8 ∧ vs = [.int .i64 k] ∧ ShaAt w' h (upS st [a, b, c, d, e, f, g, i] k) wt n ∧ Mod [h] w w') (fun vs _ => match vs with | [.int _ i] => 8 - i.toNat | _ => 0) (by kernel_rfl) ⟨0, by omega, rfl, hS4, hM.mono (by simp)⟩ ?_
  clear hw hM hS4 hr
  rintro vs w5 J5 ⟨k, hk, rfl, hS5, hM5⟩
  by_cases hlt : k < 8
  · have c1 := sha_st hS5 hlt
    have c2 : w5.frozen? ⟨h, k, none⟩ = false := frozenOf hS5.1
    have e5 : one (tke 1 (drp k [Value.int .u32 a, Value.int .u32 b, Value.int .u32 c, Value.int .u32 d, Value.int .u32 e, Value.int .u32 f, Value.int .u32 g, Value.int .u32 i])) = some (.int .u32 (getI [a, b, c, d, e, f, g, i] k)) := pick8 [a, b, c, d, e, f, g, i] k hlt
    have e6 : ∀ v, chkO (0 ≤ (k : Int) ∧ (k : Int) < 8) v = v := fun v => chkO_pos ⟨by omega, by omega⟩
    simp (maxSteps := 1000000) (disch := first | omega | (simp only [sizeAlloc, sizeDrew, sizeSet, sizePut] <;> omega) | fail) only [GS, TT_eq, TTl, Nat.reduceAdd, Nat.reduceMul, Nat.reduceSub, Nat.reduceDiv, Nat.reduceMod, Nat.reducePow, Nat.reduceEqDiff, ↓reduceIte, reduceCtorEq, Int.reduceToNat, Int.reduceAdd, Int.reduceSub, Int.reduceMul, e5, e6]
    refine hold_draw okT (rs := []) rfl [0, 0, 1, 5, 15, 31, 0, 127, 1, 257, 1023, 2047] [0, 1, 2, 3, 4, 5, 6, 7, 8, 9, 10, 11] (by kernel_rfl) (by kernel_rfl) ?_
    have hD := (Mod.refl [] w5).drewN 1
    replace hS5 := hS5.mod0 hD
    replace hM5 := hM5.trans (hD.mono (S' := [h]) (by simp)) (by simp)
    replace c1 := sha_st hS5 hlt
    replace c2 : (w5.drewN 1).frozen? ⟨h, k, none⟩ = false := frozenOf hS5.1
    clear hD
    generalize w5.drewN 1 = w6 at *
    simp (maxSteps := 1000000) (disch := first | omega | (simp only [sizeAlloc, sizeDrew, sizeSet, sizePut] <;> omega) | fail) only [GS, TT_eq, TTl, Nat.reduceAdd, Nat.reduceMul, Nat.reduceSub, Nat.reduceDiv, Nat.reduceMod, Nat.reducePow, Nat.reduceEqDiff, ↓reduceIte, reduceCtorEq, Int.reduceToNat, Int.reduceAdd, Int.reduceSub, Int.reduceMul, c1, c2]
    exact ⟨⟨k + 1, by omega, rfl, sha_set hS5 hlt, hM5.set (.inl (by simp)) _⟩, by omega⟩
  have ek : k = 8 := by omega
  subst ek
  simp (maxSteps := 1000000) (disch := first | omega | (simp only [sizeAlloc, sizeDrew, sizeSet, sizePut] <;> omega) | fail) only [GS, TT_eq, TTl, Nat.reduceAdd, Nat.reduceMul, Nat.reduceSub, Nat.reduceDiv, Nat.reduceMod, Nat.reducePow, Nat.reduceEqDiff, ↓reduceIte, reduceCtorEq, Int.reduceToNat, Int.reduceAdd, Int.reduceSub, Int.reduceMul]
  exact hR w5 (by rw [hr']; exact hS5) hM5
/-- What more bytes make of a sum: state, waiting bytes. -/
def putF (kt : List Int) : List Int → List Int → Nat → List UInt8 → List Int × List Int
  | st, wt, _, [] => (st, wt)
  | st, wt, n, c :: s => 
    let wt' := wt.set (n % 64) (c.toNat : Int)
    putF kt (if (n + 1) % 64 = 0 then takF kt st wt' else st) wt' (n + 1) s
theorem putF_app (kt : List Int) : ∀ (s t : List UInt8) (st wt : List Int) (n : Nat), putF kt st wt n (s ++ t) = putF kt (putF kt st wt n s).1 (putF kt st wt n s).2 (n + s.length) t
  | [], _, _, _, _ => rfl
  | c :: s, t, st, wt, n => by
    rw [List.cons_append, putF, putF_app kt s t, putF, List.length_cons, show n + (s.length + 1) = n + 1 + s.length by omega]
def st0 : List Int := [1779033703, 3144134277, 1013904242, 2773480762, 1359893119, 2600822924, 528734635, 1541459225]
def wt0 : List Int := List.replicate 64 0
theorem shaNew_cps (w : World) (R : Ending → World → Prop) (hR : ∀ h w', ShaAt w' h st0 wt0 0 → w.heap.size ≤ h → Mod [] w w' → R (.returned (.pointer (some ⟨h, 0, none⟩))) w') : Calls Tryz.prog 205 #[] w R := by
  refine calls_go 4000 okT Tryz.func205 rfl (rs := [.tmp 0]) rfl Tryz.ntmps205 (args := []) ?_
  simp (maxSteps := 1000000) (disch := first | omega | (simp only [sizeAlloc, sizeDrew, sizeSet, sizePut] <;> omega) | fail) only [GS, TT_eq, TTl, Nat.reduceAdd, Nat.reduceMul, Nat.reduceSub, Nat.reduceDiv, Nat.reduceMod, Nat.reducePow, Nat.reduceEqDiff, ↓reduceIte, reduceCtorEq, Int.reduceToNat, Int.reduceAdd, Int.reduceSub, Int.reduceMul]
  exact hR _ _ ⟨heapNew, rfl, rfl⟩ (Nat.le_refl _) ((Mod.refl [] w).alloc _)
theorem shaC_one {st wt : List Int} {n : Int} : ∀ v ∈ st.map u32V ++ (wt.map u8V ++ [Value.int .i64 n]), v.oneCell' = true := by
  intro v hv
  rcases List.mem_append.1 hv with h | h
  · obtain ⟨x, _, rfl⟩ := List.mem_map.1 h; rfl
  rcases List.mem_append.1 h with h | h
  · obtain ⟨x, _, rfl⟩ := List.mem_map.1 h; rfl
  · simp only [List.mem_singleton] at h; subst h; rfl
theorem addA0 {b i : Nat} : addA ⟨b, 0, none⟩ i = ⟨b, i, none⟩ := by rw [← addA_eq]; simp [Addr.add]; try omega
theorem stOk_all {w : World} {b tt : Nat} {l0 : List Value} (h : w.heap[b]? = some (.cells l0.toArray tt (0, 0))) : ∀ (vs : List Value) (i : Nat), i + vs.length ≤ l0.length → (∀ v ∈ vs, v.oneCell' = true) → stOk w ⟨b, 0, none⟩ i vs = some ()
  | [], _, _, _ => rfl
  | v :: vs, i, hi, h1 => by
    simp only [List.length_cons] at hi
    rw [stOk, stOk_all h vs (i + 1) (by omega) (fun u hu => h1 u (by simp [hu])), addA0, cellOf h, List.getElem?_toArray, List.getElem?_eq_getElem (by omega), frozenOf h, h1 v (by simp)]
    rfl
theorem setL_sets {b : Nat} : ∀ (vs : List Value) (i : Nat) (w : World), setL w ⟨b, 0, none⟩ i vs = w.setCells b i vs
  | [], _, _ => rfl
  | v :: vs, i, w => by rw [setL, setL_sets vs, World.setCells, addA0]
theorem ovw_all (l vs : List Value) (h : vs.length = l.length) : ovw l 0 vs = vs := by
  refine List.ext_getElem? fun i => ?_
  rw [ovw_get vs l 0 i (by omega)]
  by_cases hi : i < vs.length
  · rw [if_pos (by omega)]; rfl
  · rw [if_neg (by omega), List.getElem?_eq_none (by omega), List.getElem?_eq_none (by omega)]
theorem setL_all {w : World} {b tt : Nat} {l0 : List Value} (h : w.heap[b]? = some (.cells l0.toArray tt (0, 0))) (vs : List Value) (he : vs.length = l0.length) : (setL w ⟨b, 0, none⟩ 0 vs).heap[b]? = some (.cells vs.toArray tt (0, 0)) := by
  rw [setL_sets, heapSets vs 0 w h, ovw_all _ _ he]
theorem loadL_all {w : World} {b : Nat} {l : List Value} (h : ∀ j, j < l.length → w.cell? ⟨b, j, none⟩ = l[j]?) : ∀ (n i : Nat), i + n = l.length → loadL w ⟨b, 0, none⟩ i n = some (l.drop i)
  | 0, i, e => by rw [loadL, List.drop_eq_nil_of_le (by omega)]
  | n + 1, i, e => by
    have hi : i < l.length := by omega
    have ea : addA ⟨b, 0, none⟩ i = ⟨b, i, none⟩ := by rw [← addA_eq]; simp [Addr.add]; try omega
    rw [loadL, loadL_all h n (i + 1) (by omega), ea, h i hi, List.getElem?_eq_getElem hi, List.drop_eq_getElem_cons hi]
    rfl
theorem shaCopy_cps (h : Nat) (st wt : List Int) (n : Int) (w : World) (hS : ShaAt w h st wt n) (R : Ending → World → Prop) (hR : ∀ h' w', ShaAt w' h' st wt n → w.heap.size ≤ h' → Mod [] w w' → R (.returned (.pointer (some ⟨h', 0, none⟩))) w') : Calls Tryz.prog 208 #[.pointer (some ⟨h, 0, none⟩)] w R := by
  refine calls_go 4000 okT Tryz.func208 rfl (rs := [.tmp 2]) rfl Tryz.ntmps208 (args := [.pointer (some ⟨h, 0, none⟩)]) ?_
  have hL : loadL w ⟨h, 0, none⟩ 0 73 = some (st.map u32V ++ (wt.map u8V ++ [Value.int .i64 n])) := by
    have := loadL_all (w := w) (b := h) (l := st.map u32V ++ (wt.map u8V ++ [Value.int .i64 n])) (fun j hj => by rw [cellOf hS.1, List.getElem?_toArray]) 73 0 (by simp [hS.2.1, hS.2.2])
    simpa [hS.2.1, hS.2.2] using this
  have hlen : (st.map u32V ++ (wt.map u8V ++ [Value.int .i64 n])).length = 73 := by simp [hS.2.1, hS.2.2]
  obtain ⟨hS0, hS1, hS2⟩ := hS
  generalize hl : st.map u32V ++ (wt.map u8V ++ [Value.int .i64 n]) = l at *
  have hlen' : lenL l = 73 := by rw [lenL_eq]; exact hlen
  have h0 := heapNew (w := w) (o := .cells (List.toArray (Value.int .u32 0 :: Value.int .u32 0 :: Value.int .u32 0 :: Value.int .u32 0 :: Value.int .u32 0 :: Value.int .u32 0 :: Value.int .u32 0 :: Value.int .u32 0 :: Value.int .u8 0 :: Value.int .u8 0 :: Value.int .u8 0 :: Value.int .u8 0 :: Value.int .u8 0 :: Value.int .u8 0 :: Value.int .u8 0 :: Value.int .u8 0 :: Value.int .u8 0 :: Value.int .u8 0 :: Value.int .u8 0 :: Value.int .u8 0 :: Value.int .u8 0 :: Value.int .u8 0 :: Value.int .u8 0 :: Value.int .u8 0 :: Value.int .u8 0 :: Value.int .u8 0 :: Value.int .u8 0 :: Value.int .u8 0 :: Value.int .u8 0 :: Value.int .u8 0 :: Value.int .u8 0 :: Value.int .u8 0 :: Value.int .u8 0 :: Value.int .u8 0 :: Value.int .u8 0 :: Value.int .u8 0 :: Value.int .u8 0 :: Value.int .u8 0 :: Value.int .u8 0 :: Value.int .u8 0 :: Value.int .u8 0 :: Value.int .u8 0 :: Value.int .u8 0 :: Value.int .u8 0 :: Value.int .u8 0 :: Value.int .u8 0 :: Value.int .u8 0 :: Value.int .u8 0 :: Value.int .u8 0 :: Value.int .u8 0 :: Value.int .u8 0 :: Value.int .u8 0 :: Value.int .u8 0 :: Value.int .u8 0 :: Value.int .u8 0 :: Value.int .u8 0 :: Value.int .u8 0 :: Value.int .u8 0 :: Value.int .u8 0 :: Value.int .u8 0 :: Value.int .u8 0 :: Value.int .u8 0 :: Value.int .u8 0 :: Value.int .u8 0 :: Value.int .u8 0 :: Value.int .u8 0 :: Value.int .u8 0 :: Value.int .u8 0 :: Value.int .u8 0 :: Value.int .u8 0 :: Value.int .u8 0 :: Value.int .u8 0 :: Value.int .i64 0 :: [])) 292)
  have h1 : ∀ v ∈ l, v.oneCell' = true := by rw [← hl]; exact shaC_one
  have h2 := stOk_all h0 l 0 (by rw [hlen]; exact Nat.le_refl _) h1
  have h3 := setL_all h0 l hlen
  have hMa := modSets l 0 _ ((Mod.refl [] w).alloc (.cells (List.toArray (Value.int .u32 0 :: Value.int .u32 0 :: Value.int .u32 0 :: Value.int .u32 0 :: Value.int .u32 0 :: Value.int .u32 0 :: Value.int .u32 0 :: Value.int .u32 0 :: Value.int .u8 0 :: Value.int .u8 0 :: Value.int .u8 0 :: Value.int .u8 0 :: Value.int .u8 0 :: Value.int .u8 0 :: Value.int .u8 0 :: Value.int .u8 0 :: Value.int .u8 0 :: Value.int .u8 0 :: Value.int .u8 0 :: Value.int .u8 0 :: Value.int .u8 0 :: Value.int .u8 0 :: Value.int .u8 0 :: Value.int .u8 0 :: Value.int .u8 0 :: Value.int .u8 0 :: Value.int .u8 0 :: Value.int .u8 0 :: Value.int .u8 0 :: Value.int .u8 0 :: Value.int .u8 0 :: Value.int .u8 0 :: Value.int .u8 0 :: Value.int .u8 0 :: Value.int .u8 0 :: Value.int .u8 0 :: Value.int .u8 0 :: Value.int .u8 0 :: Value.int .u8 0 :: Value.int .u8 0 :: Value.int .u8 0 :: Value.int .u8 0 :: Value.int .u8 0 :: Value.int .u8 0 :: Value.int .u8 0 :: Value.int .u8 0 :: Value.int .u8 0 :: Value.int .u8 0 :: Value.int .u8 0 :: Value.int .u8 0 :: Value.int .u8 0 :: Value.int .u8 0 :: Value.int .u8 0 :: Value.int .u8 0 :: Value.int .u8 0 :: Value.int .u8 0 :: Value.int .u8 0 :: Value.int .u8 0 :: Value.int .u8 0 :: Value.int .u8 0 :: Value.int .u8 0 :: Value.int .u8 0 :: Value.int .u8 0 :: Value.int .u8 0 :: Value.int .u8 0 :: Value.int .u8 0 :: Value.int .u8 0 :: Value.int .u8 0 :: Value.int .u8 0 :: Value.int .u8 0 :: Value.int .u8 0 :: Value.int .u8 0 :: Value.int .i64 0 :: [])) 292)) (.inr (Nat.le_refl w.heap.size))
  rw [← setL_sets] at hMa
  simp (maxSteps := 1000000) (disch := first | omega | (simp only [sizeAlloc, sizeDrew, sizeSet, sizePut] <;> omega) | fail) only [GS, TT_eq, TTl, Nat.reduceAdd, Nat.reduceMul, Nat.reduceSub, Nat.reduceDiv, Nat.reduceMod, Nat.reducePow, Nat.reduceEqDiff, ↓reduceIte, reduceCtorEq, Int.reduceToNat, Int.reduceAdd, Int.reduceSub, Int.reduceMul, ↓hL, hlen', h2]
  exact hR _ _ ⟨by rw [hl]; exact h3, hS1, hS2⟩ (Nat.le_refl _) hMa
/-- Bytes laid over a row. -/
def ovI (wt : List Int) (o : Nat) : List UInt8 → List Int
  | [] => wt
  | c :: s => ovI (wt.set o (c.toNat : Int)) (o + 1) s
theorem ovI_len : ∀ (s : List UInt8) (wt : List Int) (o : Nat), (ovI wt o s).length = wt.length
  | [], _, _ => rfl
  | c :: s, wt, o => by rw [ovI, ovI_len s, List.length_set]
def WB (wt : List Int) : Prop := ∀ c ∈ wt, 0 ≤ c ∧ c < 256
theorem WB.set {wt : List Int} (h : WB wt) (o : Nat) (c : UInt8) : WB (wt.set o (c.toNat : Int)) := by
  intro x hx
  rcases List.mem_or_eq_of_mem_set hx with h1 | rfl
  · exact h x h1
  · have := c.toNat_lt; omega
theorem WB.ovI : ∀ (s : List UInt8) {wt : List Int} (o : Nat), WB wt → WB (ovI wt o s)
  | [], _, _, h => h
  | c :: s, _, o, h => WB.ovI s (o + 1) (h.set o c)
theorem ovw_sha (st : List Int) (n : Int) : ∀ (s : List UInt8) (wt : List Int) (o : Nat), o + s.length ≤ wt.length → ovw (st.map u32V ++ (wt.map u8V ++ [Value.int .i64 n])) (st.length + o) (s.map byteV) = st.map u32V ++ ((ovI wt o s).map u8V ++ [Value.int .i64 n])
  | [], _, _, _ => rfl
  | c :: s, wt, o, h => by
    simp only [List.length_cons] at h
    have e : (st.map u32V ++ (wt.map u8V ++ [Value.int .i64 n])).set (st.length + o) (byteV c) = st.map u32V ++ ((wt.set o (c.toNat : Int)).map u8V ++ [Value.int .i64 n]) := by
      rw [List.set_append_right _ _ (by rw [List.length_map]; omega), List.length_map, show st.length + o - st.length = o by omega, List.set_append_left _ _ (by rw [List.length_map]; omega), List.map_set]
      rfl
    rw [List.map_cons, ovw, e, Nat.add_assoc, ovw_sha st n s _ _ (by rw [List.length_set]; omega), ovI]
theorem putF_chunk (kt : List Int) : ∀ (c : List UInt8) (st wt : List Int) (n : Nat), c ≠ [] → n % 64 + c.length ≤ 64 → putF kt st wt n c = (if (n + c.length) % 64 = 0 then takF kt st (ovI wt (n % 64) c) else st, ovI wt (n % 64) c)
  | [], _, _, _, h, _ => absurd rfl h
  | [x], st, wt, n, _, _ => rfl
  | x :: y :: r, st, wt, n, _, h => by
    simp only [List.length_cons] at h
    have e : (n + 1) % 64 = n % 64 + 1 := by omega
    rw [putF, if_neg (by omega), putF_chunk kt (y :: r) st _ (n + 1) (by simp) (by rw [e]; simp only [List.length_cons]; omega), e]
    have e2 : n + 1 + (r.length + 1) = n + (r.length + 1 + 1) := by omega
    simp only [List.length_cons, ovI, e2]
theorem ShaAt.ne1 {w : World} {h : Nat} {st wt kt : List Int} {n : Int} (a : ShaAt w h st wt n) (k : KTab w kt) : h ≠ 2 := by
  rintro rfl
  obtain ⟨⟨tt, fr, hh⟩, l⟩ := k
  have := hh.symm.trans a.1
  simp only [Option.some.injEq] at this
  injection this with e _ _
  have := congrArg Array.size e
  simp [a.2.1, a.2.2, l] at this
theorem sha_setn {w : World} {h : Nat} {st wt : List Int} {n m : Int} (a : ShaAt w h st wt n) : ShaAt (w.setCell ⟨h, 72, none⟩ (Value.int .i64 m)) h st wt m := by
  refine ⟨?_, a.2.1, a.2.2⟩
  have := heapSet (o := 72) (v := Value.int .i64 m) a.1
  rw [this]
  have e : (st.map u32V ++ (wt.map u8V ++ [Value.int .i64 n])).set 72 (Value.int .i64 m) = st.map u32V ++ (wt.map u8V ++ [Value.int .i64 m]) := by
    rw [List.set_append_right _ _ (by rw [List.length_map, a.2.1]; omega), List.set_append_right _ _ (by rw [List.length_map, List.length_map, a.2.1, a.2.2]; omega), List.length_map, List.length_map, a.2.1, a.2.2]
    rfl
  simp [e]
theorem shaWrite_cps (h : Nat) (st wt kt : List Int) (n : Nat) (s : List UInt8) (hb : WB wt) (hs : n + s.length ≤ 4611686018427387904) (w : World) (hS : ShaAt w h st wt (n : Nat)) (hK : KTab w kt) (R : Ending → World → Prop)
    (hR : ∀ w', ShaAt w' h (putF kt st wt n s).1 (putF kt st wt n s).2 ((n + s.length : Nat) : Int) → WB (putF kt st wt n s).2 → Mod [h] w w' → R (.returned (.tuple #[])) w') :
    Calls Tryz.prog 206 #[.pointer (some ⟨h, 0, none⟩), .string ⟨s.toArray⟩] w R := by
  have h1 := hS.ne1 hK
  refine calls_go 4000 okT Tryz.func206 rfl (rs := []) rfl Tryz.ntmps206 (args := [.pointer (some ⟨h, 0, none⟩), .string ⟨s.toArray⟩]) ?_
  simp (maxSteps := 1000000) (disch := first | omega | (simp only [sizeAlloc, sizeDrew, sizeSet, sizePut] <;> omega) | fail) only [GS, TT_eq, TTl, Nat.reduceAdd, Nat.reduceMul, Nat.reduceSub, Nat.reduceDiv, Nat.reduceMod, Nat.reducePow, Nat.reduceEqDiff, ↓reduceIte, reduceCtorEq, Int.reduceToNat, Int.reduceAdd, Int.reduceSub, Int.reduceMul]
  refine hold_loop okT (rs := []) rfl [1] [4, 5, 8, 9, 10, 11, 12, 13, 14, 15, 16, 17, 18, 19, 20, 21, 22, 23, 24, 25, 26, 27, 28, 29, 30, 31, 32, 33, 34, 35, 36, 37, 38, 39, 40, 41] (fun vs w' => ∃ (i : Nat), i ≤ s.length ∧ vs = [.string ⟨(s.drop i).toArray⟩] ∧ ShaAt w' h (putF kt st wt n (s.take i)).1 (putF kt st wt n (s.take i)).2 ((n + i : Nat) : Int) ∧ WB (putF kt st wt n (s.take i)).2 ∧ Mod [h] w w') (fun vs _ => match vs with | [.string b] => b.size | _ => 0) (by kernel_rfl) ⟨0, by omega, rfl, hS, hb, Mod.refl _ _⟩ ?_
  rintro vs w1 J ⟨i, hi, rfl, hS1, hB1, hM⟩
  by_cases hlt : i < s.length
  · have hne : s.drop i ≠ [] := by intro e; have := congrArg List.length e; simp at this; omega
    have cn := sha_n hS1
    have et : ((n + i : Nat) : Int).tmod 64 = (((n + i) % 64 : Nat) : Int) := (Int.ofNat_tmod (n + i) 64).symm
    generalize hst1 : (putF kt st wt n (s.take i)).1 = st1 at *
    generalize hwt1 : (putF kt st wt n (s.take i)).2 = wt1 at *
    have hat : (n + i) % 64 < 64 := by omega
    generalize hata : (n + i) % 64 = at' at *
    have e1 : (if (64 : Int) = (at' : Int) then (⟨h, 8, none⟩ : Addr) else (⟨h, 8, none⟩ : Addr).add at') = ⟨h, 8 + at', none⟩ := by
      rw [if_neg (by omega)]; simp [Addr.add]; try omega
    simp (maxSteps := 1000000) (disch := first | omega | (simp only [sizeAlloc, sizeDrew, sizeSet, sizePut] <;> omega) | fail) only [GS, TT_eq, TTl, Nat.reduceAdd, Nat.reduceMul, Nat.reduceSub, Nat.reduceDiv, Nat.reduceMod, Nat.reducePow, Nat.reduceEqDiff, ↓reduceIte, reduceCtorEq, Int.reduceToNat, Int.reduceAdd, Int.reduceSub, Int.reduceMul, cn, hne, et, e1, Int.toNat_natCast]
    refine hold_copyS okT rfl rfl rfl rfl rfl rfl hS1.1 (by simp only [List.length_append, List.length_map, List.length_cons, List.length_nil, hS1.2.1, hS1.2.2]; omega) fun w2 hh2 hM2 => ?_
    have hd : ((s.drop i).take (64 - at')).length ≤ 64 - at' := by rw [List.length_take]; omega
    have hov := ovw_sha st1 ((n + i : Nat) : Int) ((s.drop i).take (64 - at')) wt1 at' (by rw [hS1.2.2]; omega)
    rw [hS1.2.1] at hov
    rw [hov] at hh2
    have hm : Nat.min (s.drop i).length (64 - at') = ((s.drop i).take (64 - at')).length := by rw [List.length_take]; exact Nat.min_comm _ _
    rw [hm]
    have hcn : ((s.drop i).take (64 - at')) ≠ [] := by
      intro e; have := congrArg List.length e
      rw [List.length_take, List.length_drop] at this
      simp only [List.length_nil] at this
      omega
    generalize hc : (s.drop i).take (64 - at') = c at *
    have hS2 : ShaAt w2 h st1 (ovI wt1 at' c) ((n + i : Nat) : Int) := ⟨hh2, hS1.2.1, by rw [ovI_len]; exact hS1.2.2⟩
    have cn2 := sha_n hS2
    have hcl : i + c.length ≤ s.length := by rw [← hc, List.length_take, List.length_drop]; omega
    have hM02 := hM.trans hM2 (by simp)
    have fn2 : w2.frozen? ⟨h, 72, none⟩ = false := frozenOf hS2.1
    refine hold_ops okT (rs := []) rfl ?_
    simp (maxSteps := 1000000) (disch := first | omega | (simp only [sizeAlloc, sizeDrew, sizeSet, sizePut] <;> omega) | fail) only [GS, TT_eq, TTl, Nat.reduceAdd, Nat.reduceMul, Nat.reduceSub, Nat.reduceDiv, Nat.reduceMod, Nat.reducePow, Nat.reduceEqDiff, ↓reduceIte, reduceCtorEq, Int.reduceToNat, Int.reduceAdd, Int.reduceSub, Int.reduceMul]
    refine hold_draw okT (rs := []) rfl [0, 0, 0, 6, 0, 16, 48, 112, 0, 496, 14, 2047, 4095, 8191] [0, 1, 2, 3, 4, 5, 6, 7, 8, 9, 10, 11, 12, 13] (by kernel_rfl) (by kernel_rfl) ?_
    have hD := (Mod.refl [] w2).drewN 1
    replace hS2 := hS2.mod0 hD
    replace hM02 := hM02.trans (hD.mono (S' := [h]) (by simp)) (by simp)
    replace cn2 := sha_n hS2
    replace fn2 : (w2.drewN 1).frozen? ⟨h, 72, none⟩ = false := frozenOf hS2.1
    clear hD hh2
    generalize w2.drewN 1 = w3 at *
    have edr : (s.drop i).drop c.length = s.drop (i + c.length) := List.drop_drop
    have eln : (s.drop i).length = s.length - i := List.length_drop
    have en : ((n + i : Nat) : Int) + (c.length : Int) = ((n + (i + c.length) : Nat) : Int) := by omega
    have hS4 := sha_setn hS2 (m := ((n + (i + c.length) : Nat) : Int))
    have hM4 : Mod [h] w (w3.setCell ⟨h, 72, none⟩ (.int .i64 ((n + (i + c.length) : Nat) : Int))) := hM02.set (.inl (by simp)) _
    have htk : s.take (i + c.length) = s.take i ++ c := by rw [List.take_add, ← hc, List.length_take, ← List.take_eq_take_min]
    have hput := putF_app kt (s.take i) c st wt n
    rw [← htk, hst1, hwt1, List.length_take, show min i s.length = i by omega, putF_chunk kt c st1 wt1 (n + i) hcn (by rw [hata]; omega), hata, Nat.add_assoc] at hput
    have hB4 : WB (ovI wt1 at' c) := hB1.ovI c at'
    have hc0 := List.length_pos_iff.2 hcn
    by_cases hz : (n + (i + c.length)) % 64 = 0
    · have et2 : ((n + (i + c.length) : Nat) : Int).tmod 64 = 0 := by rw [show ((n + (i + c.length) : Nat) : Int).tmod 64 = (((n + (i + c.length)) % 64 : Nat) : Int) from (Int.ofNat_tmod _ 64).symm, hz]; rfl
      rw [if_pos hz] at hput
      simp (maxSteps := 1000000) (disch := first | omega | (simp only [sizeAlloc, sizeDrew, sizeSet, sizePut] <;> omega) | fail) only [GS, TT_eq, TTl, Nat.reduceAdd, Nat.reduceMul, Nat.reduceSub, Nat.reduceDiv, Nat.reduceMod, Nat.reducePow, Nat.reduceEqDiff, ↓reduceIte, reduceCtorEq, Int.reduceToNat, Int.reduceAdd, Int.reduceSub, Int.reduceMul, cn2, fn2, edr, eln, en, et2, Int.toNat_natCast]
      refine ⟨fok209, take_cps h st1 (ovI wt1 at' c) kt _ hB4 _ hS4 (hK.mod hM4 (by simpa using h1.symm)) _ fun w5 hS5 hM5 => .inl ⟨_, rfl, hold_ops okT (rs := []) rfl ?_⟩⟩
      simp (maxSteps := 1000000) (disch := first | omega | (simp only [sizeAlloc, sizeDrew, sizeSet, sizePut] <;> omega) | fail) only [GS, TT_eq, TTl, Nat.reduceAdd, Nat.reduceMul, Nat.reduceSub, Nat.reduceDiv, Nat.reduceMod, Nat.reducePow, Nat.reduceEqDiff, ↓reduceIte, reduceCtorEq, Int.reduceToNat, Int.reduceAdd, Int.reduceSub, Int.reduceMul]
      exact ⟨⟨i + c.length, by omega, rfl, by rw [hput]; exact hS5, by rw [hput]; exact hB4, hM4.trans hM5 (by simp)⟩, by simp [ByteArray.size]; omega⟩
    · have et2 : ((n + (i + c.length) : Nat) : Int).tmod 64 = (((n + (i + c.length)) % 64 : Nat) : Int) := (Int.ofNat_tmod _ 64).symm
      rw [if_neg hz] at hput
      have hz2 : ¬ (((n + (i + c.length)) % 64 : Nat) : Int) = 0 := by omega
      simp (maxSteps := 1000000) (disch := first | omega | (simp only [sizeAlloc, sizeDrew, sizeSet, sizePut] <;> omega) | fail) only [GS, TT_eq, TTl, Nat.reduceAdd, Nat.reduceMul, Nat.reduceSub, Nat.reduceDiv, Nat.reduceMod, Nat.reducePow, Nat.reduceEqDiff, ↓reduceIte, reduceCtorEq, Int.reduceToNat, Int.reduceAdd, Int.reduceSub, Int.reduceMul, cn2, fn2, edr, eln, en, et2, hz2, Int.toNat_natCast]
      exact ⟨⟨i + c.length, by omega, rfl, by rw [hput]; exact hS4, by rw [hput]; exact hB4, hM4⟩, by simp [ByteArray.size]; omega⟩
  have ei : i = s.length := by omega
  subst ei
  rw [List.take_length] at hS1 hB1
  have hnil : s.drop s.length = [] := List.drop_length
  simp (maxSteps := 1000000) (disch := first | omega | (simp only [sizeAlloc, sizeDrew, sizeSet, sizePut] <;> omega) | fail) only [GS, TT_eq, TTl, Nat.reduceAdd, Nat.reduceMul, Nat.reduceSub, Nat.reduceDiv, Nat.reduceMod, Nat.reducePow, Nat.reduceEqDiff, ↓reduceIte, reduceCtorEq, Int.reduceToNat, Int.reduceAdd, Int.reduceSub, Int.reduceMul, hnil]
  exact hR w1 hS1 hB1 hM
def byF (x : Int) : UInt8 := UInt8.ofNat (x % 256).toNat
theorem byF_eq (x : Int) : IntKind.u8.wrap x = ((byF x).toNat : Int) := by
  have h1 : IntKind.u8.wrap x = x % 256 := rfl
  have h2 : (byF x).toNat = (x % 256).toNat % 256 := by unfold byF; rfl
  rw [h1, h2]
  omega
def zerN (n : Nat) : Nat := (119 - n % 64) % 64
def lenB (n k : Nat) : UInt8 := byF (((n * 8 : Nat) : Int).fdiv (2 ^ (56 - 8 * k)))
/-- What is written behind all. -/
def padF (n : Nat) : List UInt8 := 128 :: (List.replicate (zerN n) 0 ++ (List.range 8).map (lenB n))
def outF (st : List Int) : List UInt8 := st.flatMap fun v => [byF (v.fdiv (2 ^ 24)), byF (v.fdiv (2 ^ 16)), byF (v.fdiv (2 ^ 8)), byF v]
def sumF (kt st wt : List Int) (n : Nat) : List UInt8 := outF (putF kt st wt n (padF n)).1
theorem outF_len : ∀ st : List Int, (outF st).length = 4 * st.length
  | [] => rfl
  | v :: st => by
    have := outF_len st
    unfold outF at this ⊢
    rw [List.flatMap_cons, List.length_append, this, List.length_cons]
    simp only [List.length_cons, List.length_nil]
    omega
theorem row_load {w : World} {b e n : Nat} {v : Value} {xs : List Value} (h : w.ownsRow b e 1 v n xs) (hn : 0 < n) : ∃ A cap, v = .slice (some ⟨A, 0, none⟩) n cap ∧ loadL w ⟨A, 0, none⟩ 0 n = some xs := by
  obtain ⟨h1, h2⟩ := h
  rcases h2 with ⟨_, h2⟩ | ⟨g, cap, cur, rfl, _, hg, hc, _, hs, ht⟩
  · omega
  refine ⟨g, cap, rfl, ?_⟩
  rw [Nat.mul_one] at ht h1
  have := loadL_all (w := w) (b := g) (l := xs) (fun j hj => by
    rw [cellOf hg, ← ht, List.getElem?_take_of_lt (by omega)]
    simp) n 0 (by omega)
  simpa using this
theorem list8 {l : List Int} (h : l.length = 8) : ∃ a b c d e f g i, l = [a, b, c, d, e, f, g, i] := by
  match l, h with
  | [a, b, c, d, e, f, g, i], _ => exact ⟨a, b, c, d, e, f, g, i, rfl⟩
theorem outF_app (l m : List Int) : outF (l ++ m) = outF l ++ outF m := by unfold outF; exact List.flatMap_append
theorem shaSum_cps (h : Nat) (st wt kt : List Int) (n : Nat) (hb : WB wt) (hn : n ≤ 1152921504606846976) (w : World) (hS : ShaAt w h st wt (n : Nat)) (hK : KTab w kt) (R : Ending → World → Prop)
    (hR : ∀ w', Mod [] w w' → R (.returned (.string ⟨(sumF kt st wt n).toArray⟩)) w') :
    Calls Tryz.prog 207 #[.pointer (some ⟨h, 0, none⟩)] w R := by
  refine calls_go 4000 okT Tryz.func207 rfl (rs := [.tmp 2]) rfl Tryz.ntmps207 (args := [.pointer (some ⟨h, 0, none⟩)]) ?_
  simp (maxSteps := 1000000) (disch := first | omega | (simp only [sizeAlloc, sizeDrew, sizeSet, sizePut] <;> omega) | fail) only [GS, TT_eq, TTl, Nat.reduceAdd, Nat.reduceMul, Nat.reduceSub, Nat.reduceDiv, Nat.reduceMod, Nat.reducePow, Nat.reduceEqDiff, ↓reduceIte, reduceCtorEq, Int.reduceToNat, Int.reduceAdd, Int.reduceSub, Int.reduceMul]
  refine ⟨fok208, shaCopy_cps h st wt _ w hS _ fun c w1 hC1 hc hM1 => .inl ⟨_, rfl, hold_ops okT (rs := [.tmp 2]) rfl ?_⟩⟩
  simp (maxSteps := 1000000) (disch := first | omega | (simp only [sizeAlloc, sizeDrew, sizeSet, sizePut] <;> omega) | fail) only [GS, TT_eq, TTl, Nat.reduceAdd, Nat.reduceMul, Nat.reduceSub, Nat.reduceDiv, Nat.reduceMod, Nat.reducePow, Nat.reduceEqDiff, ↓reduceIte, reduceCtorEq, Int.reduceToNat, Int.reduceAdd, Int.reduceSub, Int.reduceMul]
  refine ⟨fok206, shaWrite_cps c st wt kt n [128] hb (by simp; omega) w1 hC1 (hK.mod hM1 (by simp)) _ fun w2 hC2 hB2 hM2 => .inl ⟨_, rfl, hold_ops okT (rs := [.tmp 2]) rfl ?_⟩⟩
  have hM02 : Mod [] w w2 := hM1.trans hM2 (by intro y hy; simp only [List.mem_singleton] at hy; subst hy; exact .inr hc)
  simp (maxSteps := 1000000) (disch := first | omega | (simp only [sizeAlloc, sizeDrew, sizeSet, sizePut] <;> omega) | fail) only [GS, TT_eq, TTl, Nat.reduceAdd, Nat.reduceMul, Nat.reduceSub, Nat.reduceDiv, Nat.reduceMod, Nat.reducePow, Nat.reduceEqDiff, ↓reduceIte, reduceCtorEq, Int.reduceToNat, Int.reduceAdd, Int.reduceSub, Int.reduceMul]
  refine hold_loop okT (rs := [.tmp 2]) rfl [] [15, 16, 17, 18, 19, 20, 21, 22] (fun vs w' => ∃ (j : Nat), j ≤ zerN n ∧ vs = [] ∧ ShaAt w' c (putF kt st wt n (128 :: List.replicate j 0)).1 (putF kt st wt n (128 :: List.replicate j 0)).2 ((n + 1 + j : Nat) : Int) ∧ WB (putF kt st wt n (128 :: List.replicate j 0)).2 ∧ Mod [] w w') (fun _ w' => match w'.cell? ⟨c, 72, none⟩ with | some (.int _ m) => n + 65 - m.toNat | _ => 0) (by kernel_rfl) ⟨0, by omega, rfl, hC2, hB2, hM02⟩ ?_
  clear hC2 hB2 hM02 hM2 hM1 hC1
  rintro vs w3 J ⟨j, hj, rfl, hC3, hB3, hM3⟩
  have cn := sha_n hC3
  have hz : zerN n = (119 - n % 64) % 64 := rfl
  have et : ((n + 1 + j : Nat) : Int).tmod 64 = (((n + 1 + j) % 64 : Nat) : Int) := (Int.ofNat_tmod _ 64).symm
  by_cases hlt : j < zerN n
  · have hne : ¬ (((n + 1 + j) % 64 : Nat) : Int) = 56 := by omega
    simp (maxSteps := 1000000) (disch := first | omega | (simp only [sizeAlloc, sizeDrew, sizeSet, sizePut] <;> omega) | fail) only [GS, TT_eq, TTl, Nat.reduceAdd, Nat.reduceMul, Nat.reduceSub, Nat.reduceDiv, Nat.reduceMod, Nat.reducePow, Nat.reduceEqDiff, ↓reduceIte, reduceCtorEq, Int.reduceToNat, Int.reduceAdd, Int.reduceSub, Int.reduceMul, cn, et, hne]
    refine ⟨fok206, shaWrite_cps c _ _ kt (n + 1 + j) [0] hB3 (by simp; omega) w3 hC3 (hK.mod hM3 (by simp)) _ fun w4 hC4 hB4 hM4 => .inl ⟨_, rfl, hold_ops okT (rs := [.tmp 2]) rfl ?_⟩⟩
    have hp := putF_app kt (128 :: List.replicate j 0) [0] st wt n
    rw [show (128 :: List.replicate j (0 : UInt8)) ++ [0] = 128 :: List.replicate (j + 1) 0 by rw [List.replicate_succ']; rfl, show n + (128 :: List.replicate j (0 : UInt8)).length = n + 1 + j by simp; omega] at hp
    rw [← hp] at hC4 hB4
    have cn4 := sha_n hC4
    simp (maxSteps := 1000000) (disch := first | omega | (simp only [sizeAlloc, sizeDrew, sizeSet, sizePut] <;> omega) | fail) only [GS, TT_eq, TTl, Nat.reduceAdd, Nat.reduceMul, Nat.reduceSub, Nat.reduceDiv, Nat.reduceMod, Nat.reducePow, Nat.reduceEqDiff, ↓reduceIte, reduceCtorEq, Int.reduceToNat, Int.reduceAdd, Int.reduceSub, Int.reduceMul]
    refine ⟨⟨j + 1, by omega, by rw [← Nat.add_assoc]; exact hC4, hB4, hM3.trans hM4 (by intro y hy; simp only [List.mem_singleton] at hy; subst hy; exact .inr hc)⟩, ?_⟩
    rw [cn4]
    simp
    omega
  have ej : j = zerN n := by omega
  subst ej
  have he : (((n + 1 + zerN n) % 64 : Nat) : Int) = 56 := by omega
  have cn0 := sha_n (hS.mod0 hM3)
  have cp3 : capN .u64 3 = 3 := by simp [capN, IntKind.bits]
  have e8 : IntKind.u64.wrap ((n : Int) * 2 ^ 3) = ((n * 8 : Nat) : Int) := by
    rw [show ((n : Int) * 2 ^ 3) = ((n * 8 : Nat) : Int) by omega]
    show ((n * 8 : Nat) : Int) % 18446744073709551616 = _
    omega
  simp (maxSteps := 1000000) (disch := first | omega | (simp only [sizeAlloc, sizeDrew, sizeSet, sizePut] <;> omega) | fail) only [GS, TT_eq, TTl, Nat.reduceAdd, Nat.reduceMul, Nat.reduceSub, Nat.reduceDiv, Nat.reduceMod, Nat.reducePow, Nat.reduceEqDiff, ↓reduceIte, reduceCtorEq, Int.reduceToNat, Int.reduceAdd, Int.reduceSub, Int.reduceMul, cn, et, he, cn0, cp3, e8]
  generalize hp0 : 128 :: List.replicate (zerN n) (0 : UInt8) = p0 at *
  have hl0 : n + p0.length = n + 1 + zerN n := by rw [← hp0]; simp; omega
  refine hold_loop okT (rs := [.tmp 2]) rfl [5] [29, 30, 31, 32, 33, 34, 35, 36, 37, 38, 39, 40] (fun vs w' => ∃ (k : Nat), k ≤ 8 ∧ vs = [.int .i64 (56 - 8 * (k : Int))] ∧ ShaAt w' c (putF kt st wt n (p0 ++ (List.range k).map (lenB n))).1 (putF kt st wt n (p0 ++ (List.range k).map (lenB n))).2 ((n + 1 + zerN n + k : Nat) : Int) ∧ WB (putF kt st wt n (p0 ++ (List.range k).map (lenB n))).2 ∧ Mod [] w w') (fun vs _ => match vs with | [.int _ i] => (i + 8).toNat | _ => 0) (by kernel_rfl) ⟨0, by omega, rfl, by simpa using hC3, by simpa using hB3, hM3⟩ ?_
  clear hC3 hB3 hM3 cn cn0
  rintro vs w4 J4 ⟨k, hk, rfl, hC4, hB4, hM4⟩
  by_cases hlt : k < 8
  · have cp : capN .u64 (56 - 8 * k) = 56 - 8 * k := by simp [capN, IntKind.bits]; omega
    have et3 : (56 - 8 * (k : Int)).toNat = 56 - 8 * k := by omega
    have eb : UInt8.ofNat (IntKind.u8.wrap (((n * 8 : Nat) : Int).fdiv (2 ^ (56 - 8 * k)))).toNat = lenB n k := rfl
    simp (maxSteps := 1000000) (disch := first | omega | (simp only [sizeAlloc, sizeDrew, sizeSet, sizePut] <;> omega) | fail) only [GS, TT_eq, TTl, Nat.reduceAdd, Nat.reduceMul, Nat.reduceSub, Nat.reduceDiv, Nat.reduceMod, Nat.reducePow, Nat.reduceEqDiff, ↓reduceIte, reduceCtorEq, Int.reduceToNat, Int.reduceAdd, Int.reduceSub, Int.reduceMul, cp, et3, eb]
    have hMa := (Mod.refl [] w4).alloc (.cells #[Value.int IntKind.u8 (IntKind.u8.wrap (((n * 8 : Nat) : Int).fdiv (2 ^ (56 - 8 * k))))] 5)
    refine ⟨fok206, shaWrite_cps c _ _ kt (n + 1 + zerN n + k) [lenB n k] hB4 (by simp [zerN]; omega) _ (hC4.mod0 hMa) ((hK.mod hM4 (by simp)).mod hMa (by simp)) _ fun w5 hC5 hB5 hM5 => .inl ⟨_, rfl, hold_ops okT (rs := [.tmp 2]) rfl ?_⟩⟩
    have hp := putF_app kt (p0 ++ (List.range k).map (lenB n)) [lenB n k] st wt n
    rw [List.append_assoc, show (List.range k).map (lenB n) ++ [lenB n k] = (List.range (k + 1)).map (lenB n) by rw [List.range_succ, List.map_append]; rfl, show n + (p0 ++ (List.range k).map (lenB n)).length = n + 1 + zerN n + k by simp; omega] at hp
    rw [← hp] at hC5 hB5
    simp (maxSteps := 1000000) (disch := first | omega | (simp only [sizeAlloc, sizeDrew, sizeSet, sizePut] <;> omega) | fail) only [GS, TT_eq, TTl, Nat.reduceAdd, Nat.reduceMul, Nat.reduceSub, Nat.reduceDiv, Nat.reduceMod, Nat.reducePow, Nat.reduceEqDiff, ↓reduceIte, reduceCtorEq, Int.reduceToNat, Int.reduceAdd, Int.reduceSub, Int.reduceMul]
    exact ⟨⟨k + 1, by omega, by congr 2; omega, by rw [← Nat.add_assoc]; exact hC5, hB5, (hM4.trans hMa (by simp)).trans hM5 (by intro y hy; simp only [List.mem_singleton] at hy; subst hy; exact .inr hc)⟩, by omega⟩
  have ek : k = 8 := by omega
  subst ek
  have hpad : p0 ++ (List.range 8).map (lenB n) = padF n := by rw [← hp0]; rfl
  rw [hpad] at hC4 hB4
  unfold sumF at hR
  generalize (putF kt st wt n (padF n)).1 = st4 at *
  generalize (putF kt st wt n (padF n)).2 = wt4 at *
  simp (maxSteps := 1000000) (disch := first | omega | (simp only [sizeAlloc, sizeDrew, sizeSet, sizePut] <;> omega) | fail) only [GS, TT_eq, TTl, Nat.reduceAdd, Nat.reduceMul, Nat.reduceSub, Nat.reduceDiv, Nat.reduceMod, Nat.reducePow, Nat.reduceEqDiff, ↓reduceIte, reduceCtorEq, Int.reduceToNat, Int.reduceAdd, Int.reduceSub, Int.reduceMul]
  refine hold_makeSlice okT rfl rfl rfl rfl rfl (Nat.zero_le 32) (by decide) (by decide) fun z hz => hold_ops okT (rs := [.tmp 2]) rfl ?_
  have hown := World.ownsRow_made (e := 5) (size := 1) (base := w4.heap.size) w4 (madeCells z.cells (32 * 1)) 32 (Nat.le_refl _) (by decide) (size_madeCells _ _)
  have hMa := (Mod.refl [] w4).alloc (.cells (madeCells z.cells (32 * 1)) 5)
  have hC5 := hC4.mod0 hMa
  have hM5 := hM4.trans hMa (by simp)
  have hcl := ltOf hC4.1
  have hb5 := hMa.size
  have hw4 := hM4.size
  generalize w4.alloc (.cells (madeCells z.cells (32 * 1)) 5) = w5 at *
  obtain ⟨a, b, c2, d, e, f, g, i, rfl⟩ := list8 hC5.2.1
  have s0 : w5.cell? ⟨c, 0, none⟩ = some (.int .u32 a) := sha_st hC5 (i := 0) (by omega)
  have s1 : w5.cell? ⟨c, 1, none⟩ = some (.int .u32 b) := sha_st hC5 (i := 1) (by omega)
  have s2 : w5.cell? ⟨c, 2, none⟩ = some (.int .u32 c2) := sha_st hC5 (i := 2) (by omega)
  have s3 : w5.cell? ⟨c, 3, none⟩ = some (.int .u32 d) := sha_st hC5 (i := 3) (by omega)
  have s4 : w5.cell? ⟨c, 4, none⟩ = some (.int .u32 e) := sha_st hC5 (i := 4) (by omega)
  have s5 : w5.cell? ⟨c, 5, none⟩ = some (.int .u32 f) := sha_st hC5 (i := 5) (by omega)
  have s6 : w5.cell? ⟨c, 6, none⟩ = some (.int .u32 g) := sha_st hC5 (i := 6) (by omega)
  have s7 : w5.cell? ⟨c, 7, none⟩ = some (.int .u32 i) := sha_st hC5 (i := 7) (by omega)
  simp (maxSteps := 1000000) (disch := first | omega | (simp only [sizeAlloc, sizeDrew, sizeSet, sizePut] <;> omega) | fail) only [GS, TT_eq, TTl, Nat.reduceAdd, Nat.reduceMul, Nat.reduceSub, Nat.reduceDiv, Nat.reduceMod, Nat.reducePow, Nat.reduceEqDiff, ↓reduceIte, reduceCtorEq, Int.reduceToNat, Int.reduceAdd, Int.reduceSub, Int.reduceMul, s0, s1, s2, s3, s4, s5, s6, s7]
  clear s0 s1 s2 s3 s4 s5 s6 s7 hC5 hC4 hM4 hMa hB4
  refine hold_loop okT (rs := [.tmp 2]) rfl [6, 46] [8, 47, 48, 49, 50, 51, 52, 53, 54, 55, 56, 57, 58, 59, 60, 61, 62, 63] (fun vs w' => ∃ (k : Nat) (sv : Value), k ≤ 8 ∧ vs = [sv, .int .i64 k] ∧ w'.ownsRow w4.heap.size 5 1 sv (4 * k) ((outF (([a, b, c2, d, e, f, g, i] : List Int).take k)).map byteV) ∧ w4.heap.size ≤ w'.heap.size ∧ Mod [] w w') (fun vs _ => match vs with | [_, .int _ i] => 8 - i.toNat | _ => 0) (by kernel_rfl) ⟨0, _, by omega, rfl, hown, hb5, hM5⟩ ?_
  clear hown
  rintro vs w6 J6 ⟨k, sv, hk, rfl, hown, hb6, hM6⟩
  by_cases hlt : k < 8
  · have e5 : one (tke 1 (drp k [Value.int .u32 a, Value.int .u32 b, Value.int .u32 c2, Value.int .u32 d, Value.int .u32 e, Value.int .u32 f, Value.int .u32 g, Value.int .u32 i])) = some (.int .u32 (getI [a, b, c2, d, e, f, g, i] k)) := pick8 [a, b, c2, d, e, f, g, i] k hlt
    have e6 : ∀ v, chkO (0 ≤ (k : Int) ∧ (k : Int) < 8) v = v := fun v => chkO_pos ⟨by omega, by omega⟩
    have q1 := cap32 24 (by omega)
    have q2 := cap32 16 (by omega)
    have q3 := cap32 8 (by omega)
    have htk : (([a, b, c2, d, e, f, g, i] : List Int).take (k + 1)) = ([a, b, c2, d, e, f, g, i] : List Int).take k ++ [getI [a, b, c2, d, e, f, g, i] k] := by rw [List.take_succ_eq_append_getElem (by simpa using hlt)]; congr 2; unfold getI; rw [List.getD_eq_getElem?_getD, List.getElem?_eq_getElem (by simpa using hlt)]; rfl
    generalize getI [a, b, c2, d, e, f, g, i] k = v at *
    have eb : [Value.int .u8 (IntKind.u8.wrap (v.fdiv (2 ^ 24))), Value.int .u8 (IntKind.u8.wrap (v.fdiv (2 ^ 16))), Value.int .u8 (IntKind.u8.wrap (v.fdiv (2 ^ 8))), Value.int .u8 (IntKind.u8.wrap v)] = (outF [v]).map byteV := by
      simp only [outF, List.flatMap_cons, List.flatMap_nil, List.append_nil, List.map_cons, List.map_nil, byteV, byF_eq]
    have hw6 := hM6.size
    simp (maxSteps := 1000000) (disch := first | omega | (simp only [sizeAlloc, sizeDrew, sizeSet, sizePut] <;> omega) | fail) only [GS, TT_eq, TTl, Nat.reduceAdd, Nat.reduceMul, Nat.reduceSub, Nat.reduceDiv, Nat.reduceMod, Nat.reducePow, Nat.reduceEqDiff, ↓reduceIte, reduceCtorEq, Int.reduceToNat, Int.reduceAdd, Int.reduceSub, Int.reduceMul, e5, e6, q1, q2, q3]
    refine hold_appendN (v := sv) okT rfl rfl rfl rfl (by decide) w4.heap.size hown rfl rfl rfl (by decide) (by intro u hu; simp only [List.mem_cons, List.not_mem_nil, or_false] at hu; rcases hu with rfl | rfl | rfl | rfl <;> rfl) (by simp only; omega) (by unfold maxLen; omega) hb6 fun v' w7 hown7 hM7 _ => hold_ops okT (rs := [.tmp 2]) rfl ?_
    rw [eb, ← List.map_append, ← outF_app, ← htk] at hown7
    simp (maxSteps := 1000000) (disch := first | omega | (simp only [sizeAlloc, sizeDrew, sizeSet, sizePut] <;> omega) | fail) only [GS, TT_eq, TTl, Nat.reduceAdd, Nat.reduceMul, Nat.reduceSub, Nat.reduceDiv, Nat.reduceMod, Nat.reducePow, Nat.reduceEqDiff, ↓reduceIte, reduceCtorEq, Int.reduceToNat, Int.reduceAdd, Int.reduceSub, Int.reduceMul]
    exact ⟨⟨k + 1, v', by omega, rfl, hown7, Nat.le_trans hb6 hM7.size, hM6.trans hM7 (by intro y hy; exact .inr (by have := (hown.lt y (by simpa using hy)).1; omega))⟩, by omega⟩
  have ek : k = 8 := by omega
  subst ek
  have ho : (outF [a, b, c2, d, e, f, g, i]).length = 32 := by rw [outF_len]; rfl
  have htk : (([a, b, c2, d, e, f, g, i] : List Int).take 8) = [a, b, c2, d, e, f, g, i] := rfl
  rw [htk] at hown
  generalize outF [a, b, c2, d, e, f, g, i] = o at *
  obtain ⟨A, cap, rfl, hL⟩ := row_load hown (by omega)
  rw [show 4 * 8 = 32 from rfl] at hL
  have hbL : bytesL (o.map byteV) = some o := bytesL_map o
  simp (maxSteps := 1000000) (disch := first | omega | (simp only [sizeAlloc, sizeDrew, sizeSet, sizePut] <;> omega) | fail) only [GS, TT_eq, TTl, Nat.reduceAdd, Nat.reduceMul, Nat.reduceSub, Nat.reduceDiv, Nat.reduceMod, Nat.reducePow, Nat.reduceEqDiff, ↓reduceIte, reduceCtorEq, Int.reduceToNat, Int.reduceAdd, Int.reduceSub, Int.reduceMul, ↓hL, hbL]
  exact hR w6 hM6
end Go.Proofs.YtdflchgfhmjhbaaGreatDoor
