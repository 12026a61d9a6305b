/-
  chirographref20: Head, Encode, number (walks).
-/
import Derived.Test.YthnlmmkhehphiaaGreatDoorEtEnv7
import Derived.Test.YthnlmmkhehphiaaGreatDoorEtEnv6
set_option linter.unusedSimpArgs false
set_option linter.unusedVariables false
set_option maxRecDepth 20000
namespace Go.Proofs.YthnlmmkhehphiaaGreatDoor
open Go Go.Wk Go.RowKit
attribute [local irreducible] go Hold
open Go.Lib
set_option maxRecDepth 20000 in
set_option maxHeartbeats 4000000 in
theorem rHead20_cps (x : Ev) (hx : EvIn x) (w : World) (R : Ending → World → Prop) (hR : ∀ w', Mod [] w w' → R (.returned (stV (headS x))) w') :
    Calls Tryz.prog 18 #[evV x] w R := by
  have hPa := rParts20_cps x
  have hMy := rMayH20_cps x hx
  unfold evV evC at hPa hMy
  unfold evV evC
  refine calls_go 4000 okT Tryz.func18 rfl (rs := [.tmp 2, .tmp 3]) rfl Tryz.ntmps18 (args := [.agg #[.int .i64 x.f, .int .i64 x.t, .int .i64 x.fe, .int .i64 x.te, .int .i64 x.no, .string ⟨x.body.toArray⟩, .string ⟨x.tag.toArray⟩]]) ?_
  simp (maxSteps := 1000000) (disch := first | omega | (simp only [sizeAlloc, sizeDrew, sizeSet, sizePut] <;> omega) | fail) only [GS, TT_eq, TTl, Nat.reduceAdd, Nat.reduceMul, Nat.reduceSub, Nat.reduceDiv, Nat.reduceMod, Nat.reducePow, Nat.reduceEqDiff, ↓reduceIte, reduceCtorEq, Int.reduceToNat, Int.reduceAdd, Int.reduceSub, Int.reduceMul]
  generalize hW : w.alloc (.cells #[.int .i64 x.f, .int .i64 x.t, .int .i64 x.fe, .int .i64 x.te, .int .i64 x.no, .string ⟨x.body.toArray⟩, .string ⟨x.tag.toArray⟩] 42) = w1
  obtain ⟨hA, hM0⟩ := bx7 hW
  clear hW
  generalize hn : w.heap.size = n at *
  refine ⟨fok50, hMy _ _ fun w2 hM2 => .inl ⟨_, rfl, hold_ops okT (rs := [.tmp 2, .tmp 3]) rfl ?_⟩⟩
  have cA2 := fun o => cellOf (o := o) (hM2.get hA (by simp))
  have hM02 := hM0.trans hM2 (by simp)
  have hmh := @mayH_is x
  unfold headS at hR
  cases hmm : mayH x
  · rw [hmm] at hR
    simp only [Bool.false_eq_true, if_false] at hR
    unfold stV at hR
    simp (maxSteps := 1000000) (disch := first | omega | (simp only [sizeAlloc, sizeDrew, sizeSet, sizePut] <;> omega) | fail) only [GS, TT_eq, TTl, Nat.reduceAdd, Nat.reduceMul, Nat.reduceSub, Nat.reduceDiv, Nat.reduceMod, Nat.reducePow, Nat.reduceEqDiff, ↓reduceIte, reduceCtorEq, Int.reduceToNat, Int.reduceAdd, Int.reduceSub, Int.reduceMul]
    exact hR _ hM02
  rw [hmm] at hR
  simp only [if_true] at hR
  obtain ⟨h1, h2, h3⟩ := hmh hmm
  simp (maxSteps := 1000000) (disch := first | omega | (simp only [sizeAlloc, sizeDrew, sizeSet, sizePut] <;> omega) | fail) only [GS, TT_eq, TTl, Nat.reduceAdd, Nat.reduceMul, Nat.reduceSub, Nat.reduceDiv, Nat.reduceMod, Nat.reducePow, Nat.reduceEqDiff, ↓reduceIte, reduceCtorEq, Int.reduceToNat, Int.reduceAdd, Int.reduceSub, Int.reduceMul, cA2]
  refine ⟨fok52, hPa h1 _ _ fun v w3 ho hM3 => .inl ⟨_, rfl, hold_ops okT (rs := [.tmp 2, .tmp 3]) rfl ?_⟩⟩
  simp (maxSteps := 1000000) (disch := first | omega | (simp only [sizeAlloc, sizeDrew, sizeSet, sizePut] <;> omega) | fail) only [GS, TT_eq, TTl, Nat.reduceAdd, Nat.reduceMul, Nat.reduceSub, Nat.reduceDiv, Nat.reduceMod, Nat.reducePow, Nat.reduceEqDiff, ↓reduceIte, reduceCtorEq, Int.reduceToNat, Int.reduceAdd, Int.reduceSub, Int.reduceMul]
  refine ⟨fok51, rRow_cps v (evL x) _ _ (by rw [evL_7]; omega) (evL_len h3) (Rd.own ho) fun w4 hM4 => .inl ⟨_, rfl, hold_ops okT (rs := [.tmp 2, .tmp 3]) rfl ?_⟩⟩
  have hM04 := (hM02.trans hM3 (by simp)).trans hM4 (by simp)
  unfold stV at hR ⊢
  simp (maxSteps := 1000000) (disch := first | omega | (simp only [sizeAlloc, sizeDrew, sizeSet, sizePut] <;> omega) | fail) only [GS, TT_eq, TTl, Nat.reduceAdd, Nat.reduceMul, Nat.reduceSub, Nat.reduceDiv, Nat.reduceMod, Nat.reducePow, Nat.reduceEqDiff, ↓reduceIte, reduceCtorEq, Int.reduceToNat, Int.reduceAdd, Int.reduceSub, Int.reduceMul]
  exact hR _ hM04
set_option maxRecDepth 20000 in
set_option maxHeartbeats 4000000 in
theorem rEnc20_cps (x : Ev) (hx : EvIn x) (w : World) (R : Ending → World → Prop) (hR : ∀ w', Mod [] w w' → R (.returned (stV (encE x))) w') :
    Calls Tryz.prog 20 #[evV x] w R := by
  have hPa := rParts20_cps x
  have hCk := rMay20_cps x hx
  unfold evV evC at hPa hCk
  unfold evV evC
  refine calls_go 4000 okT Tryz.func20 rfl (rs := [.tmp 2, .tmp 3]) rfl Tryz.ntmps20 (args := [.agg #[.int .i64 x.f, .int .i64 x.t, .int .i64 x.fe, .int .i64 x.te, .int .i64 x.no, .string ⟨x.body.toArray⟩, .string ⟨x.tag.toArray⟩]]) ?_
  simp (maxSteps := 1000000) (disch := first | omega | (simp only [sizeAlloc, sizeDrew, sizeSet, sizePut] <;> omega) | fail) only [GS, TT_eq, TTl, Nat.reduceAdd, Nat.reduceMul, Nat.reduceSub, Nat.reduceDiv, Nat.reduceMod, Nat.reducePow, Nat.reduceEqDiff, ↓reduceIte, reduceCtorEq, Int.reduceToNat, Int.reduceAdd, Int.reduceSub, Int.reduceMul]
  generalize hW : w.alloc (.cells #[.int .i64 x.f, .int .i64 x.t, .int .i64 x.fe, .int .i64 x.te, .int .i64 x.no, .string ⟨x.body.toArray⟩, .string ⟨x.tag.toArray⟩] 42) = w1
  obtain ⟨hA, hM0⟩ := bx7 hW
  clear hW
  generalize hn : w.heap.size = n at *
  refine ⟨fok24, hCk _ _ fun w2 hM2 => .inl ⟨_, rfl, hold_ops okT (rs := [.tmp 2, .tmp 3]) rfl ?_⟩⟩
  have hA2 := hM2.get hA (by simp)
  have hM02 := hM0.trans hM2 (by simp)
  have hmh : mayE x = true → mayH x = true ∧ checkS x.tag = 0 := fun h => by unfold mayE at h; simpa using h
  unfold encE at hR
  cases hmm : mayE x
  · rw [hmm] at hR
    simp only [Bool.false_eq_true, if_false] at hR ⊢
    unfold stV at hR
    simp (maxSteps := 1000000) (disch := first | omega | (simp only [sizeAlloc, sizeDrew, sizeSet, sizePut] <;> omega) | fail) only [GS, TT_eq, TTl, Nat.reduceAdd, Nat.reduceMul, Nat.reduceSub, Nat.reduceDiv, Nat.reduceMod, Nat.reducePow, Nat.reduceEqDiff, ↓reduceIte, reduceCtorEq, Int.reduceToNat, Int.reduceAdd, Int.reduceSub, Int.reduceMul]
    exact hR _ hM02
  rw [hmm] at hR
  simp only [if_true] at hR ⊢
  obtain ⟨h0, h4⟩ := hmh hmm
  obtain ⟨h1, h2, h3⟩ := mayH_is h0
  have hl8 : ∀ s ∈ evM x, s.length ≤ 1000000 := by
    unfold evM
    intro s hs
    rcases List.mem_append.1 hs with hs | hs
    · exact evL_len h3 s hs
    · rw [List.mem_singleton.1 hs]; have := (check0 h4).2.2.1; omega
  clear hCk hmh
  simp (maxSteps := 1000000) (disch := first | omega | (simp only [sizeAlloc, sizeDrew, sizeSet, sizePut] <;> omega) | fail) only [GS, TT_eq, TTl, Nat.reduceAdd, Nat.reduceMul, Nat.reduceSub, Nat.reduceDiv, Nat.reduceMod, Nat.reducePow, Nat.reduceEqDiff, ↓reduceIte, reduceCtorEq, Int.reduceToNat, Int.reduceAdd, Int.reduceSub, Int.reduceMul]
  refine hold_tree okT [0, 1, 0, 4, 12, 31, 63, 127, 127, 511, 1023] (.qop 0 (.qop 2 (.qop 3 (.eff 1 (.lin [4, 5, 6, 7, 8, 9, 10]) (.eff 4 (.lin [1, 5, 6, 7, 8, 9, 10]) .stop))))) (by kernel_rfl) ?_
  have hM_ := (Mod.refl [] w2).drewN 1
  generalize w2.drewN 1 = w3 at *
  replace hA2 := hM_.get hA2 (by simp)
  replace hM02 := hM02.trans hM_ (by simp)
  clear hM_
  have c3 := fun o => cellOf (o := o) hA2
  refine ht_val okT rfl rfl (v := .agg #[.int .i64 x.f, .int .i64 x.t, .int .i64 x.fe, .int .i64 x.te, .int .i64 x.no, .string ⟨x.body.toArray⟩, .string ⟨x.tag.toArray⟩]) (by simp (maxSteps := 1000000) (disch := first | omega | (simp only [sizeAlloc, sizeDrew, sizeSet, sizePut] <;> omega) | fail) only [GS, TT_eq, TTl, Nat.reduceAdd, Nat.reduceMul, Nat.reduceSub, Nat.reduceDiv, Nat.reduceMod, Nat.reducePow, Nat.reduceEqDiff, ↓reduceIte, reduceCtorEq, Int.reduceToNat, Int.reduceAdd, Int.reduceSub, Int.reduceMul, c3]) ?_
  refine ht_val okT rfl rfl (v := .pointer (some ⟨n, 6, none⟩)) (by simp (maxSteps := 1000000) (disch := first | omega | (simp only [sizeAlloc, sizeDrew, sizeSet, sizePut] <;> omega) | fail) only [GS, TT_eq, TTl, Nat.reduceAdd, Nat.reduceMul, Nat.reduceSub, Nat.reduceDiv, Nat.reduceMod, Nat.reducePow, Nat.reduceEqDiff, ↓reduceIte, reduceCtorEq, Int.reduceToNat, Int.reduceAdd, Int.reduceSub, Int.reduceMul]) ?_
  refine ht_val okT rfl rfl (v := .string ⟨x.tag.toArray⟩) (by simp (maxSteps := 1000000) (disch := first | omega | (simp only [sizeAlloc, sizeDrew, sizeSet, sizePut] <;> omega) | fail) only [GS, TT_eq, TTl, Nat.reduceAdd, Nat.reduceMul, Nat.reduceSub, Nat.reduceDiv, Nat.reduceMod, Nat.reducePow, Nat.reduceEqDiff, ↓reduceIte, reduceCtorEq, Int.reduceToNat, Int.reduceAdd, Int.reduceSub, Int.reduceMul, c3]) ?_
  simp (maxSteps := 1000000) only [GS, TT_eq, TTl, Nat.reduceAdd, Nat.reduceMul, Nat.reduceSub, Nat.reduceDiv, Nat.reduceMod, Nat.reducePow, Nat.reduceEqDiff, ↓reduceIte, reduceCtorEq, Int.reduceToNat, Int.reduceAdd, Int.reduceSub, Int.reduceMul]
  have d3 : w3.cell? ⟨n, 6, none⟩ = some (.string ⟨x.tag.toArray⟩) := c3 6
  clear c3
  refine ht_call okT rfl rfl ?_ ?_
  · simp (maxSteps := 1000000) (disch := first | omega | (simp only [sizeAlloc, sizeDrew, sizeSet, sizePut] <;> omega) | fail) only [GS, TT_eq, TTl, Nat.reduceAdd, Nat.reduceMul, Nat.reduceSub, Nat.reduceDiv, Nat.reduceMod, Nat.reducePow, Nat.reduceEqDiff, ↓reduceIte, reduceCtorEq, Int.reduceToNat, Int.reduceAdd, Int.reduceSub, Int.reduceMul]
    refine ⟨fok52, hPa h1 _ _ fun v w4 ho hM_ => .inl ⟨_, rfl, ?_⟩⟩
    first | refine ⟨(by repeat' (first | exact agg7 hA2 hM_ | exact cellMS14 d3 hM_ (by simp) | apply And.intro)), ?_⟩ | skip
    have hw03 := hM02.size
    replace d3 := cellMS14 d3 hM_ (by simp)
    replace hA2 := hM_.get hA2 (by simp)
    replace hM02 := hM02.trans hM_ (by simp)
    have hw3 := hM_.size
    clear hM_
    refine ht_lin rfl (hold_dops okT (rs := [.tmp 2, .tmp 3]) rfl ?_)
    simp (maxSteps := 1000000) (disch := first | omega | (simp only [sizeAlloc, sizeDrew, sizeSet, sizePut] <;> omega) | fail) only [GS, TT_eq, TTl, Nat.reduceAdd, Nat.reduceMul, Nat.reduceSub, Nat.reduceDiv, Nat.reduceMod, Nat.reducePow, Nat.reduceEqDiff, ↓reduceIte, reduceCtorEq, Int.reduceToNat, Int.reduceAdd, Int.reduceSub, Int.reduceMul]
    have hM_ := (Mod.refl [] w4).alloc (.cells #[.string ⟨x.tag.toArray⟩] 9)
    have hrd := Rd.lit (w := w4) (size := 1) (n := 1) (e := 9) (xs := [.string ⟨x.tag.toArray⟩]) rfl
    refine ⟨(by repeat' (first | exact agg7 hA2 hM_ | exact cellMS14 d3 hM_ (by simp) | apply And.intro)), ?_⟩
    replace ho := ownsRow_mod ho hM_ (by simp)
    replace hM02 := hM02.trans hM_ (by simp)
    have hw4 := hM_.size
    clear hM_
    have hwa := hM02.size
    refine hold_dappendR okT rfl rfl rfl rfl (by decide) w3.heap.size ho rfl rfl hrd (by intro u hu; rw [List.mem_singleton.1 hu]; rfl) (by rw [evL_7]; simp only; omega) (by rw [evL_7]; unfold maxLen; omega) (by omega) fun v' w7 ho7 hM7 => ⟨(by simp (maxSteps := 1000000) only [GS, TT_eq, TTl, Nat.reduceAdd, Nat.reduceMul, Nat.reduceSub, Nat.reduceDiv, Nat.reduceMod, Nat.reducePow, Nat.reduceEqDiff, ↓reduceIte, reduceCtorEq, Int.reduceToNat, Int.reduceAdd, Int.reduceSub, Int.reduceMul]), hold_dops okT (rs := [.tmp 2, .tmp 3]) rfl ?_⟩
    simp (maxSteps := 1000000) (disch := first | omega | (simp only [sizeAlloc, sizeDrew, sizeSet, sizePut] <;> omega) | fail) only [GS, TT_eq, TTl, Nat.reduceAdd, Nat.reduceMul, Nat.reduceSub, Nat.reduceDiv, Nat.reduceMod, Nat.reducePow, Nat.reduceEqDiff, ↓reduceIte, reduceCtorEq, Int.reduceToNat, Int.reduceAdd, Int.reduceSub, Int.reduceMul]
    refine ⟨fok51, rRow_cps v' (evM x) _ _ (by rw [evM_8]; omega) hl8 (by have := Rd.own ho7; unfold evM; rw [List.length_append, List.map_append]; exact this) fun w8 hM8 => .inl ⟨_, rfl, ?_⟩⟩
    refine hold_dops okT (rs := [.tmp 2, .tmp 3]) rfl ?_
    unfold stV at hR ⊢
    simp (maxSteps := 1000000) (disch := first | omega | (simp only [sizeAlloc, sizeDrew, sizeSet, sizePut] <;> omega) | fail) only [GS, TT_eq, TTl, Nat.reduceAdd, Nat.reduceMul, Nat.reduceSub, Nat.reduceDiv, Nat.reduceMod, Nat.reducePow, Nat.reduceEqDiff, ↓reduceIte, reduceCtorEq, Int.reduceToNat, Int.reduceAdd, Int.reduceSub, Int.reduceMul]
    exact hR _ ((hM02.trans hM7 (fun y hy => .inr (by have := (ho.lt y (by simpa using hy)).1; omega))).trans hM8 (by simp))
  · refine ht_eff okT rfl rfl (v := .slice (some ⟨w3.heap.size, 0, none⟩) 1 1) (w' := w3.alloc (.cells #[.string ⟨x.tag.toArray⟩] 9)) (by simp (maxSteps := 1000000) only [GS, TT_eq, TTl, Nat.reduceAdd, Nat.reduceMul, Nat.reduceSub, Nat.reduceDiv, Nat.reduceMod, Nat.reducePow, Nat.reduceEqDiff, ↓reduceIte, reduceCtorEq, Int.reduceToNat, Int.reduceAdd, Int.reduceSub, Int.reduceMul]) ?_ ?_ ht_stop
    all_goals have hM_ := (Mod.refl [] w3).alloc (.cells #[.string ⟨x.tag.toArray⟩] 9)
    all_goals have hrd := Rd.lit (w := w3) (size := 1) (n := 1) (e := 9) (xs := [.string ⟨x.tag.toArray⟩]) rfl
    all_goals generalize w3.alloc (.cells #[.string ⟨x.tag.toArray⟩] 9) = w4 at hM_ hrd ⊢
    · simp (maxSteps := 1000000) only [GS, TT_eq, TTl, Nat.reduceAdd, Nat.reduceMul, Nat.reduceSub, Nat.reduceDiv, Nat.reduceMod, Nat.reducePow, Nat.reduceEqDiff, ↓reduceIte, reduceCtorEq, Int.reduceToNat, Int.reduceAdd, Int.reduceSub, Int.reduceMul]
      repeat' (first | exact agg7 hA2 hM_ | exact cellMS14 d3 hM_ (by simp) | apply And.intro)
    replace d3 := cellMS14 d3 hM_ (by simp)
    replace hA2 := hM_.get hA2 (by simp)
    replace hM02 := hM02.trans hM_ (by simp)
    clear hM_
    generalize w3.heap.size = q3 at *
    simp (maxSteps := 1000000) only [GS, TT_eq, TTl, Nat.reduceAdd, Nat.reduceMul, Nat.reduceSub, Nat.reduceDiv, Nat.reduceMod, Nat.reducePow, Nat.reduceEqDiff, ↓reduceIte, reduceCtorEq, Int.reduceToNat, Int.reduceAdd, Int.reduceSub, Int.reduceMul]
    refine ht_lin rfl (hold_dops okT (rs := [.tmp 2, .tmp 3]) rfl ?_)
    simp (maxSteps := 1000000) (disch := first | omega | (simp only [sizeAlloc, sizeDrew, sizeSet, sizePut] <;> omega) | fail) only [GS, TT_eq, TTl, Nat.reduceAdd, Nat.reduceMul, Nat.reduceSub, Nat.reduceDiv, Nat.reduceMod, Nat.reducePow, Nat.reduceEqDiff, ↓reduceIte, reduceCtorEq, Int.reduceToNat, Int.reduceAdd, Int.reduceSub, Int.reduceMul]
    refine ⟨fok52, hPa h1 _ _ fun v w5 ho hM_ => .inl ⟨_, rfl, ?_⟩⟩
    first | refine ⟨(by repeat' (first | exact agg7 hA2 hM_ | exact cellMS14 d3 hM_ (by simp) | apply And.intro)), hold_dops okT (rs := [.tmp 2, .tmp 3]) rfl ?_⟩ | refine hold_dops okT (rs := [.tmp 2, .tmp 3]) rfl ?_
    replace hrd := hrd.mod hM_ (by simp)
    have hwb := hM02.size
    replace hM02 := hM02.trans hM_ (by simp)
    have hw5 := hM_.size
    clear hM_
    simp (maxSteps := 1000000) (disch := first | omega | (simp only [sizeAlloc, sizeDrew, sizeSet, sizePut] <;> omega) | fail) only [GS, TT_eq, TTl, Nat.reduceAdd, Nat.reduceMul, Nat.reduceSub, Nat.reduceDiv, Nat.reduceMod, Nat.reducePow, Nat.reduceEqDiff, ↓reduceIte, reduceCtorEq, Int.reduceToNat, Int.reduceAdd, Int.reduceSub, Int.reduceMul]
    refine hold_dappendR okT rfl rfl rfl rfl (by decide) w4.heap.size ho rfl rfl hrd (by intro u hu; rw [List.mem_singleton.1 hu]; rfl) (by rw [evL_7]; simp only; omega) (by rw [evL_7]; unfold maxLen; omega) (by omega) fun v' w7 ho7 hM7 => ⟨(by simp (maxSteps := 1000000) only [GS, TT_eq, TTl, Nat.reduceAdd, Nat.reduceMul, Nat.reduceSub, Nat.reduceDiv, Nat.reduceMod, Nat.reducePow, Nat.reduceEqDiff, ↓reduceIte, reduceCtorEq, Int.reduceToNat, Int.reduceAdd, Int.reduceSub, Int.reduceMul]), hold_dops okT (rs := [.tmp 2, .tmp 3]) rfl ?_⟩
    simp (maxSteps := 1000000) (disch := first | omega | (simp only [sizeAlloc, sizeDrew, sizeSet, sizePut] <;> omega) | fail) only [GS, TT_eq, TTl, Nat.reduceAdd, Nat.reduceMul, Nat.reduceSub, Nat.reduceDiv, Nat.reduceMod, Nat.reducePow, Nat.reduceEqDiff, ↓reduceIte, reduceCtorEq, Int.reduceToNat, Int.reduceAdd, Int.reduceSub, Int.reduceMul]
    refine ⟨fok51, rRow_cps v' (evM x) _ _ (by rw [evM_8]; omega) hl8 (by have := Rd.own ho7; unfold evM; rw [List.length_append, List.map_append]; exact this) fun w8 hM8 => .inl ⟨_, rfl, ?_⟩⟩
    refine hold_dops okT (rs := [.tmp 2, .tmp 3]) rfl ?_
    unfold stV at hR ⊢
    simp (maxSteps := 1000000) (disch := first | omega | (simp only [sizeAlloc, sizeDrew, sizeSet, sizePut] <;> omega) | fail) only [GS, TT_eq, TTl, Nat.reduceAdd, Nat.reduceMul, Nat.reduceSub, Nat.reduceDiv, Nat.reduceMod, Nat.reducePow, Nat.reduceEqDiff, ↓reduceIte, reduceCtorEq, Int.reduceToNat, Int.reduceAdd, Int.reduceSub, Int.reduceMul]
    exact hR _ ((hM02.trans hM7 (fun y hy => .inr (by have := (ho.lt y (by simpa using hy)).1; omega))).trans hM8 (by simp))
/-- A part as a number, below 0: it is none. -/
def nR (s : List UInt8) : Int := if (numT s).isSome = true then (((numT s).getD 0 : Nat) : Int) else -1
set_option maxRecDepth 20000 in
set_option maxHeartbeats 4000000 in
theorem rNumber_cps (v : Value) (l : List (List UInt8)) (k : Nat) (hk : k < l.length) (hl : l.length ≤ 1000) (hlen : (l.getD k []).length ≤ maxLen) (w : World) (R : Ending → World → Prop) (hrd : Rd w 1 v l.length (l.map strV)) (hR : ∀ w', Mod [] w w' → R (.returned (.int .i64 (nR (l.getD k [])))) w') :
    Calls Tryz.prog 61 #[v, .int .i64 k] w R := by
  obtain ⟨b1, o1, c1, rfl, _, g1⟩ := hrd.at (by omega) (by omega)
  have dR : w.cell? ⟨b1, o1 + k, none⟩ = some (.string ⟨(l.getD k []).toArray⟩) := g1 k _ (by rw [List.getElem?_map, List.getD_eq_getElem?_getD, List.getElem?_eq_getElem hk]; rfl)
  clear g1 hrd
  have hRN := rReadNumA_cps (l.getD k []) hlen
  rw [nuV_u13] at hRN
  unfold nR at hR
  generalize numT (l.getD k []) = o at *
  generalize l.getD k [] = L at *
  refine calls_go 4000 okT Tryz.func61 rfl (rs := [.tmp 4]) rfl Tryz.ntmps61 (args := [.slice (some ⟨b1, o1, none⟩) l.length c1, .int .i64 k]) ?_
  simp (maxSteps := 1000000) (disch := first | omega | (simp only [sizeAlloc, sizeDrew, sizeSet, sizePut] <;> omega) | fail) only [GS, TT_eq, TTl, Nat.reduceAdd, Nat.reduceMul, Nat.reduceSub, Nat.reduceDiv, Nat.reduceMod, Nat.reducePow, Nat.reduceEqDiff, ↓reduceIte, reduceCtorEq, Int.reduceToNat, Int.reduceAdd, Int.reduceSub, Int.reduceMul, dR]
  refine ⟨fok84, hRN _ _ fun w2 hM_ => .inl ⟨_, rfl, hold_ops okT (rs := [.tmp 4]) rfl ?_⟩⟩
  cases hb : o.isSome
  · rw [hb] at hR
    simp only [Bool.false_eq_true, if_false] at hR
    simp (maxSteps := 1000000) (disch := first | omega | (simp only [sizeAlloc, sizeDrew, sizeSet, sizePut] <;> omega) | fail) only [GS, TT_eq, TTl, Nat.reduceAdd, Nat.reduceMul, Nat.reduceSub, Nat.reduceDiv, Nat.reduceMod, Nat.reducePow, Nat.reduceEqDiff, ↓reduceIte, reduceCtorEq, Int.reduceToNat, Int.reduceAdd, Int.reduceSub, Int.reduceMul]
    exact hR _ hM_
  · rw [hb] at hR
    simp only [if_true] at hR
    simp (maxSteps := 1000000) (disch := first | omega | (simp only [sizeAlloc, sizeDrew, sizeSet, sizePut] <;> omega) | fail) only [GS, TT_eq, TTl, Nat.reduceAdd, Nat.reduceMul, Nat.reduceSub, Nat.reduceDiv, Nat.reduceMod, Nat.reducePow, Nat.reduceEqDiff, ↓reduceIte, reduceCtorEq, Int.reduceToNat, Int.reduceAdd, Int.reduceSub, Int.reduceMul]
    exact hR _ hM_
end Go.Proofs.YthnlmmkhehphiaaGreatDoor
