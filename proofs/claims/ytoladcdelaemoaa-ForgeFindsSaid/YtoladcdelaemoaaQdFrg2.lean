/-
  The kinds of steps; a step, by its kind (walks).
-/
import Derived.Test.YtoladcdelaemoaaQdFrg1
set_option linter.unusedSimpArgs false
set_option linter.unusedVariables false
set_option maxRecDepth 20000
namespace Go.Proofs.Ytoladcdelaemoaa
open Go Go.Wk Go.RowKit
attribute [local irreducible] go Hold
open Go.Lib
def kdV (rp : Nat) (s : Int) (n t l : Bool) (f : Nat) : Value := .agg #[.int .i64 s, .bool n, .bool t, .bool l, .func (.func f) #[.pointer (some ⟨rp, 0, none⟩)] #[]]
def kindsL (rp : Nat) : List (Value × Value) := [
  (.int .u8 1, kdV rp 0 true false false 84),
  (.int .u8 2, kdV rp 0 false true false 85),
  (.int .u8 3, kdV rp 1 true false false 86),
  (.int .u8 4, kdV rp 1 false false false 87),
  (.int .u8 5, kdV rp 2 false false false 88),
  (.int .u8 6, kdV rp 0 false false true 89),
  (.int .u8 7, kdV rp 1 false false false 90),
  (.int .u8 8, kdV rp 2 false false false 91),
  (.int .u8 9, kdV rp 3 false false false 92)]
set_option maxRecDepth 20000 in
set_option maxHeartbeats 4000000 in
theorem kinds_cps (rp : Nat) (w : World) (R : Ending → World → Prop) (hR : ∀ r w', MapAt w' r (kindsL rp) → w.heap.size ≤ r → Mod [] w w' → R (.returned (.map (some r))) w') :
    Calls Try.prog 75 #[.pointer (some ⟨rp, 0, none⟩)] w R := by
  refine calls_go 4000 okT Try.func75 rfl (rs := [.tmp 2]) rfl Try.ntmps75 (args := [.pointer (some ⟨rp, 0, none⟩)]) ?_
  simp (maxSteps := 1000000) (disch := first | omega | (simp only [sizeAlloc, sizeDrew, sizeSet, sizePut] <;> omega) | fail) only [GS, TT_eq, TTl, Nat.reduceAdd, Nat.reduceMul, Nat.reduceSub, Nat.reduceDiv, Nat.reduceMod, Nat.reducePow, Nat.reduceEqDiff, ↓reduceIte, reduceCtorEq, Int.reduceToNat, Int.reduceAdd, Int.reduceSub, Int.reduceMul]
  refine hold_makeMap rfl fun w0 hm hM => hold_ops okT (rs := [.tmp 2]) rfl ?_
  simp (maxSteps := 1000000) (disch := first | omega | (simp only [sizeAlloc, sizeDrew, sizeSet, sizePut] <;> omega) | fail) only [GS, TT_eq, TTl, Nat.reduceAdd, Nat.reduceMul, Nat.reduceSub, Nat.reduceDiv, Nat.reduceMod, Nat.reducePow, Nat.reduceEqDiff, ↓reduceIte, reduceCtorEq, Int.reduceToNat, Int.reduceAdd, Int.reduceSub, Int.reduceMul]
  refine hold_insert okT (.inl rfl) rfl rfl rfl rfl hm rfl rfl rfl fun w1 hm hN => hold_ops okT (rs := [.tmp 2]) rfl ?_
  have hM := hM.trans hN (by simp)
  simp (maxSteps := 1000000) (disch := first | omega | (simp only [sizeAlloc, sizeDrew, sizeSet, sizePut] <;> omega) | fail) only [GS, TT_eq, TTl, Nat.reduceAdd, Nat.reduceMul, Nat.reduceSub, Nat.reduceDiv, Nat.reduceMod, Nat.reducePow, Nat.reduceEqDiff, ↓reduceIte, reduceCtorEq, Int.reduceToNat, Int.reduceAdd, Int.reduceSub, Int.reduceMul]
  refine hold_insert okT (.inl rfl) rfl rfl rfl rfl hm rfl rfl rfl fun w2 hm hN => hold_ops okT (rs := [.tmp 2]) rfl ?_
  have hM := hM.trans hN (by simp)
  simp (maxSteps := 1000000) (disch := first | omega | (simp only [sizeAlloc, sizeDrew, sizeSet, sizePut] <;> omega) | fail) only [GS, TT_eq, TTl, Nat.reduceAdd, Nat.reduceMul, Nat.reduceSub, Nat.reduceDiv, Nat.reduceMod, Nat.reducePow, Nat.reduceEqDiff, ↓reduceIte, reduceCtorEq, Int.reduceToNat, Int.reduceAdd, Int.reduceSub, Int.reduceMul]
  refine hold_insert okT (.inl rfl) rfl rfl rfl rfl hm rfl rfl rfl fun w3 hm hN => hold_ops okT (rs := [.tmp 2]) rfl ?_
  have hM := hM.trans hN (by simp)
  simp (maxSteps := 1000000) (disch := first | omega | (simp only [sizeAlloc, sizeDrew, sizeSet, sizePut] <;> omega) | fail) only [GS, TT_eq, TTl, Nat.reduceAdd, Nat.reduceMul, Nat.reduceSub, Nat.reduceDiv, Nat.reduceMod, Nat.reducePow, Nat.reduceEqDiff, ↓reduceIte, reduceCtorEq, Int.reduceToNat, Int.reduceAdd, Int.reduceSub, Int.reduceMul]
  refine hold_insert okT (.inl rfl) rfl rfl rfl rfl hm rfl rfl rfl fun w4 hm hN => hold_ops okT (rs := [.tmp 2]) rfl ?_
  have hM := hM.trans hN (by simp)
  simp (maxSteps := 1000000) (disch := first | omega | (simp only [sizeAlloc, sizeDrew, sizeSet, sizePut] <;> omega) | fail) only [GS, TT_eq, TTl, Nat.reduceAdd, Nat.reduceMul, Nat.reduceSub, Nat.reduceDiv, Nat.reduceMod, Nat.reducePow, Nat.reduceEqDiff, ↓reduceIte, reduceCtorEq, Int.reduceToNat, Int.reduceAdd, Int.reduceSub, Int.reduceMul]
  refine hold_insert okT (.inl rfl) rfl rfl rfl rfl hm rfl rfl rfl fun w5 hm hN => hold_ops okT (rs := [.tmp 2]) rfl ?_
  have hM := hM.trans hN (by simp)
  simp (maxSteps := 1000000) (disch := first | omega | (simp only [sizeAlloc, sizeDrew, sizeSet, sizePut] <;> omega) | fail) only [GS, TT_eq, TTl, Nat.reduceAdd, Nat.reduceMul, Nat.reduceSub, Nat.reduceDiv, Nat.reduceMod, Nat.reducePow, Nat.reduceEqDiff, ↓reduceIte, reduceCtorEq, Int.reduceToNat, Int.reduceAdd, Int.reduceSub, Int.reduceMul]
  refine hold_insert okT (.inl rfl) rfl rfl rfl rfl hm rfl rfl rfl fun w6 hm hN => hold_ops okT (rs := [.tmp 2]) rfl ?_
  have hM := hM.trans hN (by simp)
  simp (maxSteps := 1000000) (disch := first | omega | (simp only [sizeAlloc, sizeDrew, sizeSet, sizePut] <;> omega) | fail) only [GS, TT_eq, TTl, Nat.reduceAdd, Nat.reduceMul, Nat.reduceSub, Nat.reduceDiv, Nat.reduceMod, Nat.reducePow, Nat.reduceEqDiff, ↓reduceIte, reduceCtorEq, Int.reduceToNat, Int.reduceAdd, Int.reduceSub, Int.reduceMul]
  refine hold_insert okT (.inl rfl) rfl rfl rfl rfl hm rfl rfl rfl fun w7 hm hN => hold_ops okT (rs := [.tmp 2]) rfl ?_
  have hM := hM.trans hN (by simp)
  simp (maxSteps := 1000000) (disch := first | omega | (simp only [sizeAlloc, sizeDrew, sizeSet, sizePut] <;> omega) | fail) only [GS, TT_eq, TTl, Nat.reduceAdd, Nat.reduceMul, Nat.reduceSub, Nat.reduceDiv, Nat.reduceMod, Nat.reducePow, Nat.reduceEqDiff, ↓reduceIte, reduceCtorEq, Int.reduceToNat, Int.reduceAdd, Int.reduceSub, Int.reduceMul]
  refine hold_insert okT (.inl rfl) rfl rfl rfl rfl hm rfl rfl rfl fun w8 hm hN => hold_ops okT (rs := [.tmp 2]) rfl ?_
  have hM := hM.trans hN (by simp)
  simp (maxSteps := 1000000) (disch := first | omega | (simp only [sizeAlloc, sizeDrew, sizeSet, sizePut] <;> omega) | fail) only [GS, TT_eq, TTl, Nat.reduceAdd, Nat.reduceMul, Nat.reduceSub, Nat.reduceDiv, Nat.reduceMod, Nat.reducePow, Nat.reduceEqDiff, ↓reduceIte, reduceCtorEq, Int.reduceToNat, Int.reduceAdd, Int.reduceSub, Int.reduceMul]
  refine hold_insert okT (.inl rfl) rfl rfl rfl rfl hm rfl rfl rfl fun w9 hm hN => hold_ops okT (rs := [.tmp 2]) rfl ?_
  have hM := hM.trans hN (by simp)
  simp (maxSteps := 1000000) (disch := first | omega | (simp only [sizeAlloc, sizeDrew, sizeSet, sizePut] <;> omega) | fail) only [GS, TT_eq, TTl, Nat.reduceAdd, Nat.reduceMul, Nat.reduceSub, Nat.reduceDiv, Nat.reduceMod, Nat.reducePow, Nat.reduceEqDiff, ↓reduceIte, reduceCtorEq, Int.reduceToNat, Int.reduceAdd, Int.reduceSub, Int.reduceMul]
  exact hR _ _ hm (Nat.le_refl _) hM
/-- What a step of a kind names: how many of the three, a number, a text, a row. -/
def namesS : Nat → Option (Nat × Bool × Bool × Bool)
  | 1 => some (0, true, false, false)
  | 2 => some (0, false, true, false)
  | 3 => some (1, true, false, false)
  | 4 => some (1, false, false, false)
  | 5 => some (2, false, false, false)
  | 6 => some (0, false, false, true)
  | 7 => some (1, false, false, false)
  | 8 => some (2, false, false, false)
  | 9 => some (3, false, false, false)
  | _ => none
def fnOf : Nat → Nat
  | 1 => 84
  | 2 => 85
  | 3 => 86
  | 4 => 87
  | 5 => 88
  | 6 => 89
  | 7 => 90
  | 8 => 91
  | 9 => 92
  | _ => 0
theorem look_kinds {w : World} {r rp d : Nat} (h : MapAt w r (kindsL rp)) (hd : d < 256) : ∃ (s : Nat) (bn bt bl is : Bool) (fv : Value), lookV TT 130 (.map (some r)) (.int .u8 d) true w = some (.tuple #[.agg #[.int .i64 s, .bool bn, .bool bt, .bool bl, fv], .bool is]) ∧
    namesS d = (if is = true then some (s, bn, bt, bl) else none) ∧ (is = true → fv = .func (.func (fnOf d)) #[.pointer (some ⟨rp, 0, none⟩)] #[]) ∧ fv.oneCell' = true := by
  have hl := look_at (T := TT) (t := 130) (i := .int .u8 d) (ok := true) h rfl
  by_cases h9 : 1 ≤ d ∧ d ≤ 9
  · obtain ⟨h1, h2⟩ := h9
    have : d = 1 ∨ d = 2 ∨ d = 3 ∨ d = 4 ∨ d = 5 ∨ d = 6 ∨ d = 7 ∨ d = 8 ∨ d = 9 := by omega
    rcases this with rfl | rfl | rfl | rfl | rfl | rfl | rfl | rfl | rfl
    · exact ⟨0, true, false, false, true, _, by rw [hl]; rfl, rfl, fun _ => rfl, rfl⟩
    · exact ⟨0, false, true, false, true, _, by rw [hl]; rfl, rfl, fun _ => rfl, rfl⟩
    · exact ⟨1, true, false, false, true, _, by rw [hl]; rfl, rfl, fun _ => rfl, rfl⟩
    · exact ⟨1, false, false, false, true, _, by rw [hl]; rfl, rfl, fun _ => rfl, rfl⟩
    · exact ⟨2, false, false, false, true, _, by rw [hl]; rfl, rfl, fun _ => rfl, rfl⟩
    · exact ⟨0, false, false, true, true, _, by rw [hl]; rfl, rfl, fun _ => rfl, rfl⟩
    · exact ⟨1, false, false, false, true, _, by rw [hl]; rfl, rfl, fun _ => rfl, rfl⟩
    · exact ⟨2, false, false, false, true, _, by rw [hl]; rfl, rfl, fun _ => rfl, rfl⟩
    · exact ⟨3, false, false, false, true, _, by rw [hl]; rfl, rfl, fun _ => rfl, rfl⟩
  · refine ⟨0, false, false, false, false, .nilFunc, ?_, ?_, by simp, rfl⟩
    · rw [hl]
      have hf : mfind (.int .u8 d) (kindsL rp) = none := by
        unfold kindsL
        simp only [mfind, eqKey]
        repeat (rw [decide_eq_false (by omega)]; simp only [cond_false])
      show cond (keyB (kOf TT 5) (.int .u8 d)) (cond (keysB (kOf TT 5) ((kindsL rp).map (·.1))) (some (lookR true _ (mfind (.int .u8 d) (kindsL rp)))) none) none = _
      rw [hf]
      rfl
    · unfold namesS
      split <;> first | omega | rfl
/-- May a step's fields be, behind n others? -/
def okI (i s : Nat) (v : Int) (n : Nat) : Bool := decide ((v = 0 ∧ s ≤ i) ∨ (i < s ∧ 0 ≤ v ∧ v < n))
def mayK (s : Nat) (bn bt bl : Bool) (x : Stp) (n : Nat) : Bool :=
  (bn || decide (x.n = 0)) && (bt || decide (x.text = [])) && (bl || decide (x.list = [])) && okI 0 s x.a n && okI 1 s x.b n && okI 2 s x.c n && x.list.all (fun v => decide (0 ≤ v ∧ v < n))
def mayS (x : Stp) (n : Nat) : Bool :=
  match namesS x.d with
  | none => false
  | some (s, bn, bt, bl) => mayK s bn bt bl x n
/-- What a step comes to. -/
def doS (seen l : List (List UInt8)) (x : Stp) : List UInt8 × Int :=
  match x.d with
  | 1 => lookD seen x
  | 2 => dataD x
  | 3 => partD l x
  | 4 => nonceD l x
  | 5 => bodyD l x
  | 6 => rowD l x
  | 7 => hashD l x
  | 8 => macD l x
  | 9 => sealD l x
  | _ => ([], 2)
theorem endD_cases {n : Nat} {p : List UInt8 × Int} {w : World} {K : Value → World → Prop} {E : List PanicEntry → World → Prop} (hK : p.2 = 0 → K (.string ⟨p.1.toArray⟩) w) (hE : p.2 ≠ 0 → E (wrF n p.2) w) :
    (∃ v, endD n p = .returned v ∧ K v w) ∨ (∃ ch, endD n p = .panicked ch ∧ E ch w) := by
  unfold endD
  by_cases h : p.2 = 0
  · rw [if_pos h]; exact .inl ⟨_, rfl, hK h⟩
  · rw [if_neg h]; exact .inr ⟨_, rfl, hE h⟩
theorem mayK_of {s : Nat} {bn bt bl : Bool} {x : Stp} {n : Nat} (h : mayK s bn bt bl x n = true) : (1 ≤ s → 0 ≤ x.a ∧ x.a < n) ∧ (2 ≤ s → 0 ≤ x.b ∧ x.b < n) ∧ (3 ≤ s → 0 ≤ x.c ∧ x.c < n) ∧ ∀ v ∈ x.list, 0 ≤ v ∧ v < n := by
  unfold mayK okI at h
  simp only [Bool.and_eq_true, decide_eq_true_eq, List.all_eq_true] at h
  obtain ⟨⟨⟨⟨_, h1⟩, h2⟩, h3⟩, h4⟩ := h
  exact ⟨fun _ => by omega, fun _ => by omega, fun _ => by omega, h4⟩
theorem call_do (rp : Nat) (sv lv : Value) (seen l : List (List UInt8)) (x : Stp) (w : World) (K : Value → World → Prop) (E : List PanicEntry → World → Prop) (h : RunOk w rp sv lv seen l) (hx : StpIn w x) (hm : mayS x l.length = true)
    (hK : (doS seen l x).2 = 0 → ∀ w', Mod [] w w' → K (.string ⟨(doS seen l x).1.toArray⟩) w') (hE : (doS seen l x).2 ≠ 0 → ∀ w', Mod [] w w' → E (wrF l.length (doS seen l x).2) w') :
    callV Try.prog (.func (.func (fnOf x.d)) #[.pointer (some ⟨rp, 0, none⟩)] #[]) [.agg (stpC x).toArray] w K E := by
  unfold mayS at hm
  have hcase : x.d = 1 ∨ x.d = 2 ∨ x.d = 3 ∨ x.d = 4 ∨ x.d = 5 ∨ x.d = 6 ∨ x.d = 7 ∨ x.d = 8 ∨ x.d = 9 := by
    by_cases h9 : 1 ≤ x.d ∧ x.d ≤ 9
    · omega
    · have : namesS x.d = none := by unfold namesS; split <;> first | omega | rfl
      rw [this] at hm; simp at hm
  rw [callV_eq]
  have hmk : ∀ s bn bt bl, namesS x.d = some (s, bn, bt, bl) → mayK s bn bt bl x l.length = true := fun s bn bt bl e => by rw [e] at hm; exact hm
  unfold doS at hK hE
  rcases hcase with hd | hd | hd | hd | hd | hd | hd | hd | hd
  · rw [hd] at hK hE ⊢
    obtain ⟨q1, q2, q3, q4⟩ := mayK_of (hmk 0 true false false (by rw [hd]; rfl))
    exact ⟨fok84, fLook_cps rp sv lv seen l x w _ h hx fun w' hN => endD_cases (fun e => hK e w' hN) (fun e => hE e w' hN)⟩
  · rw [hd] at hK hE ⊢
    obtain ⟨q1, q2, q3, q4⟩ := mayK_of (hmk 0 false true false (by rw [hd]; rfl))
    exact ⟨fok85, fData_cps rp sv lv seen l x w _ h hx fun w' hN => endD_cases (fun e => hK e w' hN) (fun e => hE e w' hN)⟩
  · rw [hd] at hK hE ⊢
    obtain ⟨q1, q2, q3, q4⟩ := mayK_of (hmk 1 true false false (by rw [hd]; rfl))
    exact ⟨fok86, fPart_cps rp sv lv seen l x w _ h hx (q1 (by omega)).1 (q1 (by omega)).2 fun w' hN => endD_cases (fun e => hK e w' hN) (fun e => hE e w' hN)⟩
  · rw [hd] at hK hE ⊢
    obtain ⟨q1, q2, q3, q4⟩ := mayK_of (hmk 1 false false false (by rw [hd]; rfl))
    exact ⟨fok87, fNonce_cps rp sv lv seen l x w _ h hx (q1 (by omega)).1 (q1 (by omega)).2 fun w' hN => endD_cases (fun e => hK e w' hN) (fun e => hE e w' hN)⟩
  · rw [hd] at hK hE ⊢
    obtain ⟨q1, q2, q3, q4⟩ := mayK_of (hmk 2 false false false (by rw [hd]; rfl))
    exact ⟨fok88, fBody_cps rp sv lv seen l x w _ h hx (q1 (by omega)).1 (q1 (by omega)).2 (q2 (by omega)).1 (q2 (by omega)).2 fun w' hN => endD_cases (fun e => hK e w' hN) (fun e => hE e w' hN)⟩
  · rw [hd] at hK hE ⊢
    obtain ⟨q1, q2, q3, q4⟩ := mayK_of (hmk 0 false false true (by rw [hd]; rfl))
    exact ⟨fok89, fRow_cps rp sv lv seen l x w _ h hx q4 fun w' hN => endD_cases (fun e => hK e w' hN) (fun e => hE e w' hN)⟩
  · rw [hd] at hK hE ⊢
    obtain ⟨q1, q2, q3, q4⟩ := mayK_of (hmk 1 false false false (by rw [hd]; rfl))
    exact ⟨fok90, fHash_cps rp sv lv seen l x w _ h hx (q1 (by omega)).1 (q1 (by omega)).2 fun w' hN => endD_cases (fun e => hK e w' hN) (fun e => hE e w' hN)⟩
  · rw [hd] at hK hE ⊢
    obtain ⟨q1, q2, q3, q4⟩ := mayK_of (hmk 2 false false false (by rw [hd]; rfl))
    exact ⟨fok91, fMac_cps rp sv lv seen l x w _ h hx (q1 (by omega)).1 (q1 (by omega)).2 (q2 (by omega)).1 (q2 (by omega)).2 fun w' hN => endD_cases (fun e => hK e w' hN) (fun e => hE e w' hN)⟩
  · rw [hd] at hK hE ⊢
    obtain ⟨q1, q2, q3, q4⟩ := mayK_of (hmk 3 false false false (by rw [hd]; rfl))
    exact ⟨fok92, fSeal_cps rp sv lv seen l x w _ h hx (q1 (by omega)).1 (q1 (by omega)).2 (q2 (by omega)).1 (q2 (by omega)).2 (q3 (by omega)).1 (q3 (by omega)).2 fun w' hN => endD_cases (fun e => hK e w' hN) (fun e => hE e w' hN)⟩
end Go.Proofs.Ytoladcdelaemoaa
