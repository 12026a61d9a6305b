/-
  Terms that were seen, how long they are; how much a statement looks at (walk). hmac.Same; a suite of terms: New, Key, may, Mac, Same (walks). A suite of terms: may, Mac, Same (walks).
-/
import Derived.Test.YtcikecociiebkaaGreatDoorQaZ4
import Derived.Test.YtcikecociiebkaaGreatDoorQaInv
import Derived.Test.YtcikecociiebkaaGreatDoorQaZ2
import Derived.Laws.BitsAllLaws
set_option linter.unusedSimpArgs false
set_option linter.unusedVariables false
set_option maxRecDepth 20000
namespace Go.Proofs.YtcikecociiebkaaGreatDoor
open Go Go.Wk Go.RowKit
attribute [local irreducible] go Hold
open Go.Lib
/-- Those that are terms. -/
def okL (l : List Tm) : List Tm := l.filter fun s => decide (checkS s = 0)
theorem okL_ok (l : List Tm) : ∀ s ∈ okL l, checkS s = 0 := by
  intro s hs
  unfold okL at hs
  rw [List.mem_filter] at hs
  simpa using hs.2
theorem okL_in {l : List Tm} {s : Tm} (h : s ∈ okL l) : s ∈ l := by
  unfold okL at h
  exact (List.mem_filter.1 h).1
def sumL (l : List Tm) : Nat := (l.map List.length).sum
theorem sumL_cons (x : Tm) (l : List Tm) : sumL (x :: l) = x.length + sumL l := by simp [sumL]
theorem sumL_app (l m : List Tm) : sumL (l ++ m) = sumL l + sumL m := by simp [sumL]
theorem sumL_ok : ∀ l : List Tm, sumL (okL l) ≤ sumL l
  | [] => Nat.le_refl _
  | x :: l => by
    have ih := sumL_ok l
    unfold okL at ih ⊢
    rw [List.filter_cons]
    split
    · rw [sumL_cons, sumL_cons]; omega
    · rw [sumL_cons]; omega
theorem sumL_take (l : List Tm) (k : Nat) : sumL (l.take k) ≤ sumL l := by
  have h : sumL l = sumL (l.take k) + sumL (l.drop k) := by rw [← sumL_app, List.take_append_drop]
  omega
theorem KnIs.small {S : List Tm} {E : List Ent} (h : KnIs S E) (hS : ∀ s ∈ S, checkS s = 0) : 3 * E.length ≤ sumL S := by
  have h1 := h.num hS
  have h2 := flatW hS
  unfold sumL
  omega
theorem okL_app (l m : List Tm) : okL (l ++ m) = okL l ++ okL m := by unfold okL; exact List.filter_append ..
theorem okL_one {t : Tm} (h : checkS t = 0) : okL [t] = [t] := by unfold okL; simp [h]
theorem okL_no {t : Tm} (h : checkS t ≠ 0) : okL [t] = [] := by unfold okL; simp [h]
set_option maxHeartbeats 2000000 in
theorem Long10s_cps (sa : Value) (xs : List (List UInt8)) (w : World) (R : Ending → World → Prop) (hx : xs.length ≤ 9223372036854775807) (hxs : ∀ s ∈ xs, s.length ≤ maxLen) (ha : Rd w 1 sa xs.length (xs.map strV))
    (hR : ∀ b : Bool, (b = false → xs.length ≤ 40 ∧ sumL xs ≤ 6000) → R (.returned (.bool b)) w) : Calls Tryz.prog 5 #[sa] w R := by
  obtain ⟨a, ca, rfl⟩ := ha.slice
  refine calls_go 4000 okT Tryz.func5 rfl (rs := [.tmp 2]) rfl Tryz.ntmps5 (args := [.slice a xs.length ca]) ?_
  simp (maxSteps := 1000000) (disch := first | omega | (simp only [sizeAlloc, sizeDrew, sizeSet, sizePut] <;> omega) | fail) only [GS, TT_eq, TTl, Nat.reduceAdd, Nat.reduceMul, Nat.reduceSub, Nat.reduceDiv, Nat.reduceMod, Nat.reducePow, Nat.reduceEqDiff, ↓reduceIte, reduceCtorEq, Int.reduceToNat, Int.reduceAdd, Int.reduceSub, Int.reduceMul]
  refine hold_loop okT (rs := [.tmp 2]) rfl [3, 4] [5, 6, 7, 8, 9, 10, 11, 12, 13, 14, 15, 16, 17, 18, 19, 20, 21, 22] (fun vs w' => ∃ k s : Nat, k ≤ xs.length ∧ k ≤ 60 ∧ s ≤ k * 65536 ∧ (s ≤ 6000 → sumL (xs.take k) ≤ s) ∧ vs = [.int .i64 s, .int .i64 k] ∧ w' = w) (fun vs _ => match vs with | [_, .int _ i] => 60 - i.toNat | _ => 0) (by kernel_rfl) ⟨0, 0, by omega, by omega, by omega, by simp [sumL], rfl, rfl⟩ ?_
  rintro vs w' J ⟨k, s, hk, hk60, hs, hsm, rfl, rfl⟩
  by_cases hlt : k < xs.length
  · by_cases h60 : k < 60
    · obtain ⟨b1, o1, c1, e1, _, g1⟩ := ha.at (by omega) (by omega)
      have f1 := g1 k _ (getS hlt)
      rw [Value.slice.injEq] at e1
      obtain ⟨rfl, -, -⟩ := e1
      have hml := hxs _ (List.getElem_mem hlt)
      unfold maxLen at hml
      have htk := List.take_succ_eq_append_getElem hlt
      generalize xs[k] = z at f1 hml htk
      have hmin : min ((z.length : Nat) : Int) 65536 = ((min z.length 65536 : Nat) : Int) := by omega
      have hmb : min z.length 65536 ≤ 65536 := Nat.min_le_right _ _
      simp (maxSteps := 1000000) (disch := first | omega | (simp only [sizeAlloc, sizeDrew, sizeSet, sizePut] <;> omega) | fail) only [GS, TT_eq, TTl, Nat.reduceAdd, Nat.reduceMul, Nat.reduceSub, Nat.reduceDiv, Nat.reduceMod, Nat.reducePow, Nat.reduceEqDiff, ↓reduceIte, reduceCtorEq, Int.reduceToNat, Int.reduceAdd, Int.reduceSub, Int.reduceMul, f1, hmin]
      refine ⟨⟨k + 1, s + min z.length 65536, by omega, by omega, by omega, ?_, by simp⟩, by omega⟩
      intro h6
      rw [htk, sumL_app]
      have := hsm (by omega)
      have h1 : sumL [z] = z.length := by simp [sumL]
      omega
    · by_cases h40 : 40 < xs.length
      · simp (maxSteps := 1000000) (disch := first | omega | (simp only [sizeAlloc, sizeDrew, sizeSet, sizePut] <;> omega) | fail) only [GS, TT_eq, TTl, Nat.reduceAdd, Nat.reduceMul, Nat.reduceSub, Nat.reduceDiv, Nat.reduceMod, Nat.reducePow, Nat.reduceEqDiff, ↓reduceIte, reduceCtorEq, Int.reduceToNat, Int.reduceAdd, Int.reduceSub, Int.reduceMul]
        exact hR _ (by simp)
      · omega
  · have e : k = xs.length := by omega
    subst e
    rw [List.take_length] at hsm
    by_cases h40 : 40 < xs.length
    · simp (maxSteps := 1000000) (disch := first | omega | (simp only [sizeAlloc, sizeDrew, sizeSet, sizePut] <;> omega) | fail) only [GS, TT_eq, TTl, Nat.reduceAdd, Nat.reduceMul, Nat.reduceSub, Nat.reduceDiv, Nat.reduceMod, Nat.reducePow, Nat.reduceEqDiff, ↓reduceIte, reduceCtorEq, Int.reduceToNat, Int.reduceAdd, Int.reduceSub, Int.reduceMul]
      exact hR _ (by simp)
    · by_cases h6 : 6000 < s
      · simp (maxSteps := 1000000) (disch := first | omega | (simp only [sizeAlloc, sizeDrew, sizeSet, sizePut] <;> omega) | fail) only [GS, TT_eq, TTl, Nat.reduceAdd, Nat.reduceMul, Nat.reduceSub, Nat.reduceDiv, Nat.reduceMod, Nat.reducePow, Nat.reduceEqDiff, ↓reduceIte, reduceCtorEq, Int.reduceToNat, Int.reduceAdd, Int.reduceSub, Int.reduceMul]
        exact hR _ (by simp)
      · simp (maxSteps := 1000000) (disch := first | omega | (simp only [sizeAlloc, sizeDrew, sizeSet, sizePut] <;> omega) | fail) only [GS, TT_eq, TTl, Nat.reduceAdd, Nat.reduceMul, Nat.reduceSub, Nat.reduceDiv, Nat.reduceMod, Nat.reducePow, Nat.reduceEqDiff, ↓reduceIte, reduceCtorEq, Int.reduceToNat, Int.reduceAdd, Int.reduceSub, Int.reduceMul]
        exact hR _ (fun _ => ⟨by omega, by have := hsm (by omega); omega⟩)
end Go.Proofs.YtcikecociiebkaaGreatDoor
set_option linter.unusedSimpArgs false
set_option linter.unusedVariables false
set_option maxRecDepth 20000
namespace Go.Proofs.YtcikecociiebkaaGreatDoor
open Go Go.Wk Go.RowKit
attribute [local irreducible] go Hold
open Go.Lib
theorem xor0 (x y : Nat) : x ^^^ y = 0 ↔ x = y := by
  constructor
  · intro h
    apply Nat.eq_of_testBit_eq
    intro i
    have h2 := congrArg (fun z : Nat => z.testBit i) h
    simp only [Nat.testBit_xor, Nat.zero_testBit] at h2
    simpa using h2
  · rintro rfl
    exact Nat.xor_self x
theorem or0 (x y : Nat) : x ||| y = 0 ↔ x = 0 ∧ y = 0 := by
  constructor
  · intro h
    constructor
    all_goals
      apply Nat.eq_of_testBit_eq
      intro i
      have h2 := congrArg (fun z : Nat => z.testBit i) h
      simp only [Nat.testBit_or, Nat.zero_testBit, Bool.or_eq_false_iff] at h2
      simp [h2.1, h2.2]
  · rintro ⟨rfl, rfl⟩
    rfl
set_option maxRecDepth 20000 in
set_option maxHeartbeats 4000000 in
theorem hSame_cps (a b : List UInt8) (ha : a.length ≤ maxLen) (w : World) (R : Ending → World → Prop) (hR : ∀ w', Mod [] w w' → R (.returned (.bool (decide (a = b)))) w') :
    Calls Tryz.prog 127 #[.string ⟨a.toArray⟩, .string ⟨b.toArray⟩] w R := by
  unfold maxLen at ha
  refine calls_go 4000 okT Tryz.func127 rfl (rs := [.tmp 4]) rfl Tryz.ntmps127 (args := [.string ⟨a.toArray⟩, .string ⟨b.toArray⟩]) ?_
  by_cases hl : ((a.length : Nat) : Int) = ((b.length : Nat) : Int)
  rotate_left
  · rw [decide_eq_false (fun e => hl (by rw [e]))] at hR
    simp (maxSteps := 1000000) (disch := first | omega | (simp only [sizeAlloc, sizeDrew, sizeSet, sizePut] <;> omega) | fail) only [GS, TT_eq, TTl, Nat.reduceAdd, Nat.reduceMul, Nat.reduceSub, Nat.reduceDiv, Nat.reduceMod, Nat.reducePow, Nat.reduceEqDiff, ↓reduceIte, reduceCtorEq, Int.reduceToNat, Int.reduceAdd, Int.reduceSub, Int.reduceMul, hl]
    exact hR _ (Mod.refl _ _)
  have hl' : a.length = b.length := by omega
  simp (maxSteps := 1000000) (disch := first | omega | (simp only [sizeAlloc, sizeDrew, sizeSet, sizePut] <;> omega) | fail) only [GS, TT_eq, TTl, Nat.reduceAdd, Nat.reduceMul, Nat.reduceSub, Nat.reduceDiv, Nat.reduceMod, Nat.reducePow, Nat.reduceEqDiff, ↓reduceIte, reduceCtorEq, Int.reduceToNat, Int.reduceAdd, Int.reduceSub, Int.reduceMul, (decide_eq_true hl)]
  refine hold_loop okT (rs := [.tmp 4]) rfl [5, 14] [6, 15, 16, 17, 18, 19, 20, 21, 22, 23, 24, 25, 26] (fun vs w' => ∃ i d : Nat, vs = [.int .u8 d, .int .i64 i] ∧ i ≤ a.length ∧ d < 256 ∧ (d = 0 ↔ a.take i = b.take i) ∧ Mod [] w w') (fun vs _ => match vs with | [_, .int _ i] => a.length - i.toNat | _ => 0) (by kernel_rfl) ⟨0, 0, rfl, by omega, by omega, by simp, Mod.refl _ _⟩ ?_
  rintro vs w1 J ⟨i, d, rfl, hi, hd, hiff, hM⟩
  by_cases hlt : i < a.length
  rotate_left
  · have e : i = a.length := by omega
    subst e
    have hdd : decide (a = b) = decide ((d : Int) = 0) := decide_eq_decide.2 ⟨fun e => by have := hiff.2 (by rw [e]); omega, fun e => by have := hiff.1 (by omega); rw [List.take_length, hl', List.take_length] at this; exact this⟩
    rw [hdd] at hR
    simp (maxSteps := 1000000) (disch := first | omega | (simp only [sizeAlloc, sizeDrew, sizeSet, sizePut] <;> omega) | fail) only [GS, TT_eq, TTl, Nat.reduceAdd, Nat.reduceMul, Nat.reduceSub, Nat.reduceDiv, Nat.reduceMod, Nat.reducePow, Nat.reduceEqDiff, ↓reduceIte, reduceCtorEq, Int.reduceToNat, Int.reduceAdd, Int.reduceSub, Int.reduceMul]
    exact hR _ hM
  simp (maxSteps := 1000000) (disch := first | omega | (simp only [sizeAlloc, sizeDrew, sizeSet, sizePut] <;> omega) | fail) only [GS, TT_eq, TTl, Nat.reduceAdd, Nat.reduceMul, Nat.reduceSub, Nat.reduceDiv, Nat.reduceMod, Nat.reducePow, Nat.reduceEqDiff, ↓reduceIte, reduceCtorEq, Int.reduceToNat, Int.reduceAdd, Int.reduceSub, Int.reduceMul]
  have hx := (a.getD i 0).toNat_lt
  have hy := (b.getD i 0).toNat_lt
  have hx2 : (a.getD i 0).toNat ^^^ (b.getD i 0).toNat < 2 ^ 8 := Nat.xor_lt_two_pow (by omega) (by omega)
  have hd2 : d ||| ((a.getD i 0).toNat ^^^ (b.getD i 0).toNat) < 2 ^ 8 := Nat.or_lt_two_pow (by omega) hx2
  have hlb : i < b.length := by omega
  have ea : a.getD i 0 = a[i] := by rw [List.getD_eq_getElem?_getD, List.getElem?_eq_getElem hlt, Option.getD_some]
  have eb : b.getD i 0 = b[i] := by rw [List.getD_eq_getElem?_getD, List.getElem?_eq_getElem hlb, Option.getD_some]
  have hta := List.take_succ_eq_append_getElem hlt
  have htb := List.take_succ_eq_append_getElem hlb
  refine ⟨by kernel_rfl, fun m => ⟨⟨i + 1, d ||| ((a.getD i 0).toNat ^^^ (b.getD i 0).toNat), ?_, by omega, by omega, ?_, hM.drewN m⟩, by omega⟩⟩
  · rw [u8_xor_nat _ _ (by omega) (by omega), u8_or_nat _ _ hd (by omega)]
    rfl
  · rw [or0, xor0, hiff, hta, htb, ← ea, ← eb]
    constructor
    · rintro ⟨h1, h2⟩
      rw [h1, UInt8.toNat_inj.1 h2]
    · intro h
      obtain ⟨h1, h2⟩ := List.append_inj' h rfl
      exact ⟨h1, by rw [List.singleton_inj.1 h2]⟩
/-- A suite of terms. -/
def isSui (w : World) (s : Nat) : Prop := w.heap[s]? = some (.cells #[.iface 77 (.agg #[])] 81 (0, 0))
theorem isSui.mod {w w' : World} {s : Nat} (h : isSui w s) (hM : Mod [] w w') : isSui w' s := hM.get h (by simp)
set_option maxRecDepth 20000 in
set_option maxHeartbeats 4000000 in
theorem sNew_cps (m : List UInt8) (w : World) (R : Ending → World → Prop) (hR : ∀ s w', isSui w' s → Mod [] w w' → R (.returned (.tuple #[.pointer (some ⟨s, 0, none⟩), .int .i64 0])) w') :
    Calls Tryz.prog 7 #[.int .u8 1, .string ⟨m.toArray⟩] w R := by
  refine calls_go 4000 okT Tryz.func7 rfl (rs := [.tmp 4, .tmp 5]) rfl Tryz.ntmps7 (args := [.int .u8 1, .string ⟨m.toArray⟩]) ?_
  simp (maxSteps := 1000000) (disch := first | omega | (simp only [sizeAlloc, sizeDrew, sizeSet, sizePut] <;> omega) | fail) only [GS, TT_eq, TTl, Nat.reduceAdd, Nat.reduceMul, Nat.reduceSub, Nat.reduceDiv, Nat.reduceMod, Nat.reducePow, Nat.reduceEqDiff, ↓reduceIte, reduceCtorEq, Int.reduceToNat, Int.reduceAdd, Int.reduceSub, Int.reduceMul]
  exact hR w.heap.size _ heapNew ((Mod.refl [] w).alloc _)
set_option maxRecDepth 20000 in
set_option maxHeartbeats 4000000 in
theorem sKeyT_cps (n : List UInt8) (hn : n.length ≤ maxLen) (w : World) (R : Ending → World → Prop) (hR : ∀ w', Mod [] w w' → R (.returned (stV (atomS n))) w') :
    Calls Tryz.prog 196 #[.agg #[], .string ⟨n.toArray⟩] w R := by
  refine calls_go 4000 okT Tryz.func196 rfl (rs := [.tmp 4, .tmp 5]) rfl Tryz.ntmps196 (args := [.agg #[], .string ⟨n.toArray⟩]) ?_
  simp (maxSteps := 1000000) (disch := first | omega | (simp only [sizeAlloc, sizeDrew, sizeSet, sizePut] <;> omega) | fail) only [GS, TT_eq, TTl, Nat.reduceAdd, Nat.reduceMul, Nat.reduceSub, Nat.reduceDiv, Nat.reduceMod, Nat.reducePow, Nat.reduceEqDiff, ↓reduceIte, reduceCtorEq, Int.reduceToNat, Int.reduceAdd, Int.reduceSub, Int.reduceMul]
  generalize hW : w.alloc (.cells #[] 77) = w1
  have hM0 : Mod [] w w1 := by subst hW; exact (Mod.refl [] w).alloc _
  clear hW
  refine ⟨fok198, tAtom_cps n hn _ _ fun w2 hM2 => .inl ⟨_, rfl, hold_ops okT (rs := [.tmp 4, .tmp 5]) rfl ?_⟩⟩
  have hM02 := hM0.trans hM2 (by simp)
  unfold stV at hR ⊢
  simp (maxSteps := 1000000) (disch := first | omega | (simp only [sizeAlloc, sizeDrew, sizeSet, sizePut] <;> omega) | fail) only [GS, TT_eq, TTl, Nat.reduceAdd, Nat.reduceMul, Nat.reduceSub, Nat.reduceDiv, Nat.reduceMod, Nat.reducePow, Nat.reduceEqDiff, ↓reduceIte, reduceCtorEq, Int.reduceToNat, Int.reduceAdd, Int.reduceSub, Int.reduceMul]
  exact hR _ hM02
theorem mKey (w : World) : (method (Tryz.prog.types.size + Made.depth) 77 (.agg #[]) "chirograph/suite.key").run Tryz.prog w = .ok (196, .agg #[]) w := by kernel_rfl
set_option maxRecDepth 20000 in
set_option maxHeartbeats 4000000 in
theorem sKey_cps (s : Nat) (n : List UInt8) (hn : n.length ≤ maxLen) (w : World) (h : isSui w s) (R : Ending → World → Prop) (hR : ∀ w', Mod [] w w' → R (.returned (stV (atomS n))) w') :
    Calls Tryz.prog 15 #[.pointer (some ⟨s, 0, none⟩), .string ⟨n.toArray⟩] w R := by
  have c := fun o => cellOf (o := o) h
  refine calls_go 4000 okT Tryz.func15 rfl (rs := [.tmp 4, .tmp 5]) rfl Tryz.ntmps15 (args := [.pointer (some ⟨s, 0, none⟩), .string ⟨n.toArray⟩]) ?_
  simp (maxSteps := 1000000) (disch := first | omega | (simp only [sizeAlloc, sizeDrew, sizeSet, sizePut] <;> omega) | fail) only [GS, TT_eq, TTl, Nat.reduceAdd, Nat.reduceMul, Nat.reduceSub, Nat.reduceDiv, Nat.reduceMod, Nat.reducePow, Nat.reduceEqDiff, ↓reduceIte, reduceCtorEq, Int.reduceToNat, Int.reduceAdd, Int.reduceSub, Int.reduceMul, c]
  refine hold_invoke rfl rfl (mKey _) fok196 (sKeyT_cps n hn _ _ fun w2 hM2 => .inl ⟨_, rfl, hold_ops okT (rs := [.tmp 4, .tmp 5]) rfl ?_⟩)
  unfold stV at hR ⊢
  simp (maxSteps := 1000000) (disch := first | omega | (simp only [sizeAlloc, sizeDrew, sizeSet, sizePut] <;> omega) | fail) only [GS, TT_eq, TTl, Nat.reduceAdd, Nat.reduceMul, Nat.reduceSub, Nat.reduceDiv, Nat.reduceMod, Nat.reducePow, Nat.reduceEqDiff, ↓reduceIte, reduceCtorEq, Int.reduceToNat, Int.reduceAdd, Int.reduceSub, Int.reduceMul]
  exact hR _ hM2
end Go.Proofs.YtcikecociiebkaaGreatDoor
set_option linter.unusedSimpArgs false
set_option linter.unusedVariables false
set_option maxRecDepth 20000
namespace Go.Proofs.YtcikecociiebkaaGreatDoor
open Go Go.Wk Go.RowKit
attribute [local irreducible] go Hold
open Go.Lib
set_option maxRecDepth 20000 in
set_option maxHeartbeats 4000000 in
theorem sMay_cps (s : Nat) (sa : Value) (xs : List (List UInt8)) (hx : xs.length ≤ 1000000) (hz : ∀ t ∈ xs, t.length ≤ maxLen) (w : World) (ha : Rd w 1 sa xs.length (xs.map strV)) (R : Ending → World → Prop) (hR : ∀ w', Mod [] w w' → R (.returned (.int .i64 (if allS xs = true then 0 else 2))) w') :
    Calls Tryz.prog 85 #[.pointer (some ⟨s, 0, none⟩), sa] w R := by
  obtain ⟨pa, ca, rfl⟩ := ha.slice
  refine calls_go 4000 okT Tryz.func85 rfl (rs := [.tmp 4]) rfl Tryz.ntmps85 (args := [.pointer (some ⟨s, 0, none⟩), .slice pa xs.length ca]) ?_
  simp (maxSteps := 1000000) (disch := first | omega | (simp only [sizeAlloc, sizeDrew, sizeSet, sizePut] <;> omega) | fail) only [GS, TT_eq, TTl, Nat.reduceAdd, Nat.reduceMul, Nat.reduceSub, Nat.reduceDiv, Nat.reduceMod, Nat.reducePow, Nat.reduceEqDiff, ↓reduceIte, reduceCtorEq, Int.reduceToNat, Int.reduceAdd, Int.reduceSub, Int.reduceMul]
  refine hold_loop okT (rs := [.tmp 4]) rfl [11] [4, 6, 12, 13, 14, 15, 16, 17, 18] (fun vs w' => ∃ k : Nat, k ≤ xs.length ∧ vs = [.int .i64 k] ∧ Mod [] w w' ∧ ∀ t ∈ xs.take k, checkS t = 0) (fun vs _ => match vs with | [.int _ i] => xs.length - i.toNat | _ => 0) (by kernel_rfl) ⟨0, by omega, rfl, Mod.refl _ _, by simp⟩ ?_
  rintro vs w1 J ⟨k, hk, rfl, hM, hn⟩
  by_cases hlt : k < xs.length
  · obtain ⟨b1, o1, c1, e1, _, g1⟩ := (ha.mod hM (by simp)).at (by omega) (by omega)
    have f1 : w1.cell? ⟨b1, o1 + k, none⟩ = some (.string ⟨(xs[k]).toArray⟩) := g1 k _ (getS hlt)
    rw [Value.slice.injEq] at e1
    obtain ⟨rfl, -, -⟩ := e1
    have htk := List.take_succ_eq_append_getElem hlt
    have hmem := List.getElem_mem hlt
    generalize xs[k] = t at f1 htk hmem
    simp (maxSteps := 1000000) (disch := first | omega | (simp only [sizeAlloc, sizeDrew, sizeSet, sizePut] <;> omega) | fail) only [GS, TT_eq, TTl, Nat.reduceAdd, Nat.reduceMul, Nat.reduceSub, Nat.reduceDiv, Nat.reduceMod, Nat.reducePow, Nat.reduceEqDiff, ↓reduceIte, reduceCtorEq, Int.reduceToNat, Int.reduceAdd, Int.reduceSub, Int.reduceMul, f1]
    refine ⟨fok33, tCheck_cps t (hz t hmem) _ _ fun w2 hM2 => .inl ⟨_, rfl, hold_ops okT (rs := [.tmp 4]) rfl ?_⟩⟩
    by_cases hc : checkS t = 0
    · simp (maxSteps := 1000000) (disch := first | omega | (simp only [sizeAlloc, sizeDrew, sizeSet, sizePut] <;> omega) | fail) only [GS, TT_eq, TTl, Nat.reduceAdd, Nat.reduceMul, Nat.reduceSub, Nat.reduceDiv, Nat.reduceMod, Nat.reducePow, Nat.reduceEqDiff, ↓reduceIte, reduceCtorEq, Int.reduceToNat, Int.reduceAdd, Int.reduceSub, Int.reduceMul, (decide_eq_true hc)]
      refine ⟨⟨k + 1, by omega, rfl, hM.trans hM2 (by simp), ?_⟩, by omega⟩
      rw [htk]
      intro u hu
      rcases List.mem_append.1 hu with hu | hu
      · exact hn u hu
      · rw [List.mem_singleton.1 hu]; exact hc
    · have hf : allS xs = false := by
        unfold allS
        rw [List.all_eq_false]
        exact ⟨t, hmem, by simpa using hc⟩
      rw [hf] at hR
      simp only [Bool.false_eq_true, if_false] at hR
      simp (maxSteps := 1000000) (disch := first | omega | (simp only [sizeAlloc, sizeDrew, sizeSet, sizePut] <;> omega) | fail) only [GS, TT_eq, TTl, Nat.reduceAdd, Nat.reduceMul, Nat.reduceSub, Nat.reduceDiv, Nat.reduceMod, Nat.reducePow, Nat.reduceEqDiff, ↓reduceIte, reduceCtorEq, Int.reduceToNat, Int.reduceAdd, Int.reduceSub, Int.reduceMul, hc]
      exact hR _ (hM.trans hM2 (by simp))
  · have e : k = xs.length := by omega
    subst e
    rw [List.take_length] at hn
    have ht : allS xs = true := by unfold allS; rw [List.all_eq_true]; intro u hu; simp [hn u hu]
    rw [ht] at hR
    simp only [if_true] at hR
    simp (maxSteps := 1000000) (disch := first | omega | (simp only [sizeAlloc, sizeDrew, sizeSet, sizePut] <;> omega) | fail) only [GS, TT_eq, TTl, Nat.reduceAdd, Nat.reduceMul, Nat.reduceSub, Nat.reduceDiv, Nat.reduceMod, Nat.reducePow, Nat.reduceEqDiff, ↓reduceIte, reduceCtorEq, Int.reduceToNat, Int.reduceAdd, Int.reduceSub, Int.reduceMul]
    exact hR _ hM
theorem mMac (w : World) : (method (Tryz.prog.types.size + Made.depth) 77 (.agg #[]) "chirograph/suite.mac").run Tryz.prog w = .ok (197, .agg #[]) w := by kernel_rfl
set_option maxRecDepth 20000 in
set_option maxHeartbeats 4000000 in
theorem sMacT_cps (x y : List UInt8) (hx : x.length ≤ 1000000) (hy : y.length ≤ 1000000) (w : World) (R : Ending → World → Prop) (hR : ∀ w', Mod [] w w' → R (.returned (stV (madeS [109] [x, y]))) w') :
    Calls Tryz.prog 197 #[.agg #[], .string ⟨x.toArray⟩, .string ⟨y.toArray⟩] w R := by
  refine calls_go 4000 okT Tryz.func197 rfl (rs := [.tmp 6, .tmp 7]) rfl Tryz.ntmps197 (args := [.agg #[], .string ⟨x.toArray⟩, .string ⟨y.toArray⟩]) ?_
  simp (maxSteps := 1000000) (disch := first | omega | (simp only [sizeAlloc, sizeDrew, sizeSet, sizePut] <;> omega) | fail) only [GS, TT_eq, TTl, Nat.reduceAdd, Nat.reduceMul, Nat.reduceSub, Nat.reduceDiv, Nat.reduceMod, Nat.reducePow, Nat.reduceEqDiff, ↓reduceIte, reduceCtorEq, Int.reduceToNat, Int.reduceAdd, Int.reduceSub, Int.reduceMul]
  generalize hW : w.alloc (.cells #[] 77) = w1
  have hM0 : Mod [] w w1 := by subst hW; exact (Mod.refl [] w).alloc _
  clear hW
  refine ⟨fok199, tMac_cps x y hx hy _ _ fun w2 hM2 => .inl ⟨_, rfl, hold_ops okT (rs := [.tmp 6, .tmp 7]) rfl ?_⟩⟩
  have hM02 := hM0.trans hM2 (by simp)
  unfold stV at hR ⊢
  simp (maxSteps := 1000000) (disch := first | omega | (simp only [sizeAlloc, sizeDrew, sizeSet, sizePut] <;> omega) | fail) only [GS, TT_eq, TTl, Nat.reduceAdd, Nat.reduceMul, Nat.reduceSub, Nat.reduceDiv, Nat.reduceMod, Nat.reducePow, Nat.reduceEqDiff, ↓reduceIte, reduceCtorEq, Int.reduceToNat, Int.reduceAdd, Int.reduceSub, Int.reduceMul]
  exact hR _ hM02
set_option maxRecDepth 20000 in
set_option maxHeartbeats 4000000 in
theorem sMac_cps (s : Nat) (x y : List UInt8) (hx : x.length ≤ 1000000) (hy : y.length ≤ 1000000) (w : World) (h : isSui w s) (R : Ending → World → Prop) (hR : ∀ w', Mod [] w w' → R (.returned (stV (madeS [109] [x, y]))) w') :
    Calls Tryz.prog 43 #[.pointer (some ⟨s, 0, none⟩), .string ⟨x.toArray⟩, .string ⟨y.toArray⟩] w R := by
  refine calls_go 4000 okT Tryz.func43 rfl (rs := [.tmp 6, .tmp 7]) rfl Tryz.ntmps43 (args := [.pointer (some ⟨s, 0, none⟩), .string ⟨x.toArray⟩, .string ⟨y.toArray⟩]) ?_
  simp (maxSteps := 1000000) (disch := first | omega | (simp only [sizeAlloc, sizeDrew, sizeSet, sizePut] <;> omega) | fail) only [GS, TT_eq, TTl, Nat.reduceAdd, Nat.reduceMul, Nat.reduceSub, Nat.reduceDiv, Nat.reduceMod, Nat.reducePow, Nat.reduceEqDiff, ↓reduceIte, reduceCtorEq, Int.reduceToNat, Int.reduceAdd, Int.reduceSub, Int.reduceMul]
  have hrd : Rd (w.alloc (.cells #[.string ⟨x.toArray⟩, .string ⟨y.toArray⟩] 9)) 1 (.slice (some ⟨w.heap.size, 0, none⟩) 2 2) 2 ([x, y].map strV) := Rd.lit (n := 2) (xs := [.string ⟨x.toArray⟩, .string ⟨y.toArray⟩]) rfl
  have hM0 := (Mod.refl [] w).alloc (.cells #[.string ⟨x.toArray⟩, .string ⟨y.toArray⟩] 9)
  have h1 := h.mod hM0
  generalize w.alloc (.cells #[.string ⟨x.toArray⟩, .string ⟨y.toArray⟩] 9) = w1 at hrd hM0 h1 ⊢
  refine ⟨fok85, sMay_cps s _ [x, y] (by simp) (fun t ht => by simp only [List.mem_cons, List.not_mem_nil, or_false] at ht; unfold maxLen; rcases ht with rfl | rfl <;> omega) _ hrd _ fun w2 hM2 => .inl ⟨_, rfl, hold_ops okT (rs := [.tmp 6, .tmp 7]) rfl ?_⟩⟩
  have hM02 := hM0.trans hM2 (by simp)
  have c := fun o => cellOf (o := o) (h1.mod hM2)
  by_cases hal : allS [x, y] = true
  · rw [if_pos hal]
    simp (maxSteps := 1000000) (disch := first | omega | (simp only [sizeAlloc, sizeDrew, sizeSet, sizePut] <;> omega) | fail) only [GS, TT_eq, TTl, Nat.reduceAdd, Nat.reduceMul, Nat.reduceSub, Nat.reduceDiv, Nat.reduceMod, Nat.reducePow, Nat.reduceEqDiff, ↓reduceIte, reduceCtorEq, Int.reduceToNat, Int.reduceAdd, Int.reduceSub, Int.reduceMul, c]
    refine hold_invoke rfl rfl (mMac _) fok197 (sMacT_cps x y hx hy _ _ fun w3 hM3 => .inl ⟨_, rfl, hold_ops okT (rs := [.tmp 6, .tmp 7]) rfl ?_⟩)
    unfold stV at hR ⊢
    simp (maxSteps := 1000000) (disch := first | omega | (simp only [sizeAlloc, sizeDrew, sizeSet, sizePut] <;> omega) | fail) only [GS, TT_eq, TTl, Nat.reduceAdd, Nat.reduceMul, Nat.reduceSub, Nat.reduceDiv, Nat.reduceMod, Nat.reducePow, Nat.reduceEqDiff, ↓reduceIte, reduceCtorEq, Int.reduceToNat, Int.reduceAdd, Int.reduceSub, Int.reduceMul]
    exact hR _ (hM02.trans hM3 (by simp))
  · rw [if_neg hal]
    have hm : madeS [109] [x, y] = ([], 2) := by unfold madeS; rw [if_neg hal]
    rw [hm] at hR
    unfold stV at hR
    simp (maxSteps := 1000000) (disch := first | omega | (simp only [sizeAlloc, sizeDrew, sizeSet, sizePut] <;> omega) | fail) only [GS, TT_eq, TTl, Nat.reduceAdd, Nat.reduceMul, Nat.reduceSub, Nat.reduceDiv, Nat.reduceMod, Nat.reducePow, Nat.reduceEqDiff, ↓reduceIte, reduceCtorEq, Int.reduceToNat, Int.reduceAdd, Int.reduceSub, Int.reduceMul]
    exact hR _ hM02
set_option maxRecDepth 20000 in
set_option maxHeartbeats 4000000 in
theorem sSame_cps (s : Nat) (a b : List UInt8) (ha : a.length ≤ maxLen) (w : World) (R : Ending → World → Prop) (hR : ∀ w', Mod [] w w' → R (.returned (.bool (decide (a = b)))) w') :
    Calls Tryz.prog 82 #[.pointer (some ⟨s, 0, none⟩), .string ⟨a.toArray⟩, .string ⟨b.toArray⟩] w R := by
  refine calls_go 4000 okT Tryz.func82 rfl (rs := [.tmp 6]) rfl Tryz.ntmps82 (args := [.pointer (some ⟨s, 0, none⟩), .string ⟨a.toArray⟩, .string ⟨b.toArray⟩]) ?_
  simp (maxSteps := 1000000) (disch := first | omega | (simp only [sizeAlloc, sizeDrew, sizeSet, sizePut] <;> omega) | fail) only [GS, TT_eq, TTl, Nat.reduceAdd, Nat.reduceMul, Nat.reduceSub, Nat.reduceDiv, Nat.reduceMod, Nat.reducePow, Nat.reduceEqDiff, ↓reduceIte, reduceCtorEq, Int.reduceToNat, Int.reduceAdd, Int.reduceSub, Int.reduceMul]
  refine ⟨fok127, hSame_cps a b ha _ _ fun w2 hM2 => .inl ⟨_, rfl, hold_ops okT (rs := [.tmp 6]) rfl ?_⟩⟩
  simp (maxSteps := 1000000) (disch := first | omega | (simp only [sizeAlloc, sizeDrew, sizeSet, sizePut] <;> omega) | fail) only [GS, TT_eq, TTl, Nat.reduceAdd, Nat.reduceMul, Nat.reduceSub, Nat.reduceDiv, Nat.reduceMod, Nat.reducePow, Nat.reduceEqDiff, ↓reduceIte, reduceCtorEq, Int.reduceToNat, Int.reduceAdd, Int.reduceSub, Int.reduceMul]
  exact hR _ hM2
end Go.Proofs.YtcikecociiebkaaGreatDoor
