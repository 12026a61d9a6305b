/-
  env.Check, Head, Encode (walks).
-/
import Derived.Test.YthnlmmkhehphiaaGreatDoorEaEnv3
set_option linter.unusedSimpArgs false
set_option linter.unusedVariables false
set_option maxRecDepth 20000
namespace Go.Proofs.YthnlmmkhehphiaaGreatDoor
open Go Go.Wk Go.RowKit
attribute [local irreducible] go Hold
open Go.Lib
theorem agg7 {w w' : World} {n : Nat} {x0 x1 x2 x3 x4 x5 x6 : Value} (h : w.heap[n]? = some (.cells #[x0, x1, x2, x3, x4, x5, x6] 42 (0, 0))) (hm : Mod [] w w') : aggO (consO (w'.cell? ⟨n, 0, none⟩) (consO (w'.cell? ⟨n, 1, none⟩) (consO (w'.cell? ⟨n, 2, none⟩) (consO (w'.cell? ⟨n, 3, none⟩) (consO (w'.cell? ⟨n, 4, none⟩) (consO (w'.cell? ⟨n, 5, none⟩) (consO (w'.cell? ⟨n, 6, none⟩) (some [])))))))) = some (.agg #[x0, x1, x2, x3, x4, x5, x6]) := by
  have c := fun o => cellOf (o := o) (hm.get h (by simp))
  rw [c 0, c 1, c 2, c 3, c 4, c 5, c 6]
  rfl
/-- 'append(s, x..)' in a drawn region. -/
theorem hold_dappendR {P : Program} {T : Tab} (hP : Ok P T) {V : Env} {R : Ending → World → Prop} {F : Exit → Act → World → Prop} {all : List Oper} {mm : List Nat} {ix : Nat} {o : Oper} {C : List (Nat × Oper)} {pnd : List PR} {k : List KI} {fs : List Value} {w : World} {s x : Operand} {t e : Nat} {i : TI}
    (ho : o.op = .call ⟨.builtin .append, #[s, x], #[t, t]⟩) (ht : kOf T t = .slice e) (he : T e = some i) (hz : lenL i.zero = i.size) (hs : 0 < i.size) (base : Nat) {v u : Value} {n m : Nat} {xs news : List Value} (hown : w.ownsRow base e i.size v n xs)
    (hv : ev fs s = v) (hu : ev fs x = u) (hx : Rd w i.size u m news) (h1 : ∀ u ∈ news, u.oneCell' = true) (hb : (n + m) * i.bytes ≤ 140737488355328) (hn : n + m ≤ maxLen) (hbase : base ≤ w.heap.size)
    (h : ∀ v' w', w'.ownsRow base e i.size v' (n + m) (xs ++ news) → Wk.Mod v.ownBlock.toList w w' → staysP T mm ix w' pnd ∧ Hold P T V R F (.dops all mm C pnd) k (put fs o.dst v') w') : Hold P T V R F (.deff none all mm ix o C pnd) k fs w := by
  obtain ⟨ty, cs, hr⟩ := exec_builtin (P := P) (fs := fs) ho w
  obtain ⟨v', w', a1, a2, a3⟩ := runR (P := P) hP ht he hz hs base hown hx h1 hn hb hbase ty cs
  have hh := h v' w' a2 a3
  refine hold_deffV (v := v') (w' := w') ?_ hh.1 hh.2
  rw [hr]; simp only [evs, hv, hu]; exact a1
/-- Whether an envelope may be; what is tagged of it; its term. -/
def mayE (x : Ev) : Bool := mayH x && decide (checkS x.tag = 0)
def headS (x : Ev) : List UInt8 × Int := if mayH x = true then madeS (114 :: numL (evL x).length) (evL x) else ([], 2)
def evM (x : Ev) : List (List UInt8) := evL x ++ [x.tag]
def encE (x : Ev) : List UInt8 × Int := if mayE x = true then madeS (114 :: numL (evM x).length) (evM x) else ([], 2)
structure EvIn (x : Ev) : Prop where
  body : x.body.length ≤ maxLen
  tag : x.tag.length ≤ maxLen
theorem mayH_is {x : Ev} (h : mayH x = true) : allN x = true ∧ x.f ≠ x.t ∧ checkS x.body = 0 := by
  unfold mayH at h
  simp only [Bool.and_eq_true, decide_eq_true_eq] at h
  exact h
theorem evn_len (v : Int) : (numS v).1.length ≤ 1000000 := by
  unfold numS
  split
  · simp
  · have := dataS_len (numL v.toNat); omega
theorem evL_len {x : Ev} (h : checkS x.body = 0) : ∀ s ∈ evL x, s.length ≤ 1000000 := by
  unfold evL evL0 evN
  intro s hs
  simp only [List.take_succ_cons, List.take_nil, List.take_zero, List.map_cons, List.map_nil, List.cons_append, List.nil_append, List.mem_cons, List.not_mem_nil, or_false] at hs
  rcases hs with rfl | rfl | rfl | rfl | rfl | rfl | rfl
  · have := dataS_len EW; omega
  · exact evn_len _
  · exact evn_len _
  · exact evn_len _
  · exact evn_len _
  · exact evn_len _
  · have := (check0 h).2.2.1; omega
theorem evL_7 (x : Ev) : (evL x).length = 7 := rfl
theorem evM_8 (x : Ev) : (evM x).length = 8 := rfl
set_option maxRecDepth 20000 in
set_option maxHeartbeats 4000000 in
theorem enCheck_cps (x : Ev) (hx : EvIn x) (w : World) (R : Ending → World → Prop) (hR : ∀ w', Mod [] w w' → R (.returned (.int .i64 (if mayE x = true then 0 else 2))) w') :
    Calls Tryz.prog 23 #[evV x] w R := by
  have hb := hx.body
  have ht := hx.tag
  have hMy := enMay_cps x hb
  unfold evV evC at hMy ⊢
  refine calls_go 4000 okT Tryz.func23 rfl (rs := [.tmp 2]) rfl Tryz.ntmps23 (args := [.agg #[.int .i64 x.f, .int .i64 x.t, .int .i64 x.fe, .int .i64 x.te, .int .i64 x.no, .string ⟨x.body.toArray⟩, .string ⟨x.tag.toArray⟩]]) ?_
  simp (maxSteps := 1000000) (disch := first | omega | (simp only [sizeAlloc, sizeDrew, sizeSet, sizePut] <;> omega) | fail) only [GS, TT_eq, TTl, Nat.reduceAdd, Nat.reduceMul, Nat.reduceSub, Nat.reduceDiv, Nat.reduceMod, Nat.reducePow, Nat.reduceEqDiff, ↓reduceIte, reduceCtorEq, Int.reduceToNat, Int.reduceAdd, Int.reduceSub, Int.reduceMul]
  generalize hW : w.alloc (.cells #[.int .i64 x.f, .int .i64 x.t, .int .i64 x.fe, .int .i64 x.te, .int .i64 x.no, .string ⟨x.body.toArray⟩, .string ⟨x.tag.toArray⟩] 42) = w1
  obtain ⟨hA, hM0⟩ := bx7 hW
  clear hW
  generalize hn : w.heap.size = n at *
  refine ⟨fok47, hMy _ _ fun w2 hM2 => .inl ⟨_, rfl, hold_ops okT (rs := [.tmp 2]) rfl ?_⟩⟩
  have cA2 := fun o => cellOf (o := o) (hM2.get hA (by simp))
  have hM02 := hM0.trans hM2 (by simp)
  unfold mayE at hR
  cases hmm : mayH x
  · rw [hmm] at hR
    simp only [Bool.false_and, Bool.false_eq_true, if_false] at hR
    simp (maxSteps := 1000000) (disch := first | omega | (simp only [sizeAlloc, sizeDrew, sizeSet, sizePut] <;> omega) | fail) only [GS, TT_eq, TTl, Nat.reduceAdd, Nat.reduceMul, Nat.reduceSub, Nat.reduceDiv, Nat.reduceMod, Nat.reducePow, Nat.reduceEqDiff, ↓reduceIte, reduceCtorEq, Int.reduceToNat, Int.reduceAdd, Int.reduceSub, Int.reduceMul]
    exact hR _ hM02
  rw [hmm, Bool.true_and] at hR
  simp (maxSteps := 1000000) (disch := first | omega | (simp only [sizeAlloc, sizeDrew, sizeSet, sizePut] <;> omega) | fail) only [GS, TT_eq, TTl, Nat.reduceAdd, Nat.reduceMul, Nat.reduceSub, Nat.reduceDiv, Nat.reduceMod, Nat.reducePow, Nat.reduceEqDiff, ↓reduceIte, reduceCtorEq, Int.reduceToNat, Int.reduceAdd, Int.reduceSub, Int.reduceMul, cA2]
  refine ⟨fok62, tCheck_cps x.tag ht _ _ fun w3 hM3 => .inl ⟨_, rfl, hold_ops okT (rs := [.tmp 2]) rfl ?_⟩⟩
  by_cases hc : checkS x.tag = 0
  · rw [decide_eq_true hc] at hR
    simp (maxSteps := 1000000) (disch := first | omega | (simp only [sizeAlloc, sizeDrew, sizeSet, sizePut] <;> omega) | fail) only [GS, TT_eq, TTl, Nat.reduceAdd, Nat.reduceMul, Nat.reduceSub, Nat.reduceDiv, Nat.reduceMod, Nat.reducePow, Nat.reduceEqDiff, ↓reduceIte, reduceCtorEq, Int.reduceToNat, Int.reduceAdd, Int.reduceSub, Int.reduceMul, hc]
    exact hR _ (hM02.trans hM3 (by simp))
  · rw [decide_eq_false hc] at hR
    simp (maxSteps := 1000000) (disch := first | omega | (simp only [sizeAlloc, sizeDrew, sizeSet, sizePut] <;> omega) | fail) only [GS, TT_eq, TTl, Nat.reduceAdd, Nat.reduceMul, Nat.reduceSub, Nat.reduceDiv, Nat.reduceMod, Nat.reducePow, Nat.reduceEqDiff, ↓reduceIte, reduceCtorEq, Int.reduceToNat, Int.reduceAdd, Int.reduceSub, Int.reduceMul, hc]
    exact hR _ (hM02.trans hM3 (by simp))
set_option maxRecDepth 20000 in
set_option maxHeartbeats 4000000 in
theorem enHead_cps (x : Ev) (hx : EvIn x) (w : World) (R : Ending → World → Prop) (hR : ∀ w', Mod [] w w' → R (.returned (stV (headS x))) w') :
    Calls Tryz.prog 17 #[evV x] w R := by
  have hPa := enParts_cps x
  have hb := hx.body
  have ht := hx.tag
  have hMy := enMay_cps x hb
  unfold evV evC at hMy hPa ⊢
  refine calls_go 4000 okT Tryz.func17 rfl (rs := [.tmp 2, .tmp 3]) rfl Tryz.ntmps17 (args := [.agg #[.int .i64 x.f, .int .i64 x.t, .int .i64 x.fe, .int .i64 x.te, .int .i64 x.no, .string ⟨x.body.toArray⟩, .string ⟨x.tag.toArray⟩]]) ?_
  simp (maxSteps := 1000000) (disch := first | omega | (simp only [sizeAlloc, sizeDrew, sizeSet, sizePut] <;> omega) | fail) only [GS, TT_eq, TTl, Nat.reduceAdd, Nat.reduceMul, Nat.reduceSub, Nat.reduceDiv, Nat.reduceMod, Nat.reducePow, Nat.reduceEqDiff, ↓reduceIte, reduceCtorEq, Int.reduceToNat, Int.reduceAdd, Int.reduceSub, Int.reduceMul]
  generalize hW : w.alloc (.cells #[.int .i64 x.f, .int .i64 x.t, .int .i64 x.fe, .int .i64 x.te, .int .i64 x.no, .string ⟨x.body.toArray⟩, .string ⟨x.tag.toArray⟩] 42) = w1
  obtain ⟨hA, hM0⟩ := bx7 hW
  clear hW
  generalize hn : w.heap.size = n at *
  refine ⟨fok47, hMy _ _ fun w2 hM2 => .inl ⟨_, rfl, hold_ops okT (rs := [.tmp 2, .tmp 3]) rfl ?_⟩⟩
  have cA2 := fun o => cellOf (o := o) (hM2.get hA (by simp))
  have hM02 := hM0.trans hM2 (by simp)
  have hmh := @mayH_is x
  unfold headS at hR
  cases hmm : mayH x
  · rw [hmm] at hR
    simp only [Bool.false_eq_true, if_false] at hR
    unfold stV at hR
    simp (maxSteps := 1000000) (disch := first | omega | (simp only [sizeAlloc, sizeDrew, sizeSet, sizePut] <;> omega) | fail) only [GS, TT_eq, TTl, Nat.reduceAdd, Nat.reduceMul, Nat.reduceSub, Nat.reduceDiv, Nat.reduceMod, Nat.reducePow, Nat.reduceEqDiff, ↓reduceIte, reduceCtorEq, Int.reduceToNat, Int.reduceAdd, Int.reduceSub, Int.reduceMul]
    exact hR _ hM02
  rw [hmm] at hR
  simp only [if_true] at hR
  obtain ⟨h1, h2, h3⟩ := hmh hmm
  simp (maxSteps := 1000000) (disch := first | omega | (simp only [sizeAlloc, sizeDrew, sizeSet, sizePut] <;> omega) | fail) only [GS, TT_eq, TTl, Nat.reduceAdd, Nat.reduceMul, Nat.reduceSub, Nat.reduceDiv, Nat.reduceMod, Nat.reducePow, Nat.reduceEqDiff, ↓reduceIte, reduceCtorEq, Int.reduceToNat, Int.reduceAdd, Int.reduceSub, Int.reduceMul, cA2]
  refine ⟨fok49, hPa h1 _ _ fun v w3 ho hM3 => .inl ⟨_, rfl, hold_ops okT (rs := [.tmp 2, .tmp 3]) rfl ?_⟩⟩
  simp (maxSteps := 1000000) (disch := first | omega | (simp only [sizeAlloc, sizeDrew, sizeSet, sizePut] <;> omega) | fail) only [GS, TT_eq, TTl, Nat.reduceAdd, Nat.reduceMul, Nat.reduceSub, Nat.reduceDiv, Nat.reduceMod, Nat.reducePow, Nat.reduceEqDiff, ↓reduceIte, reduceCtorEq, Int.reduceToNat, Int.reduceAdd, Int.reduceSub, Int.reduceMul]
  refine ⟨fok48, tRow_cps v (evL x) _ _ (by rw [evL_7]; omega) (evL_len h3) (Rd.own ho) fun w4 hM4 => .inl ⟨_, rfl, hold_ops okT (rs := [.tmp 2, .tmp 3]) rfl ?_⟩⟩
  have hM04 := (hM02.trans hM3 (by simp)).trans hM4 (by simp)
  unfold stV at hR ⊢
  simp (maxSteps := 1000000) (disch := first | omega | (simp only [sizeAlloc, sizeDrew, sizeSet, sizePut] <;> omega) | fail) only [GS, TT_eq, TTl, Nat.reduceAdd, Nat.reduceMul, Nat.reduceSub, Nat.reduceDiv, Nat.reduceMod, Nat.reducePow, Nat.reduceEqDiff, ↓reduceIte, reduceCtorEq, Int.reduceToNat, Int.reduceAdd, Int.reduceSub, Int.reduceMul]
  exact hR _ hM04
set_option maxRecDepth 20000 in
set_option maxHeartbeats 4000000 in
theorem enEnc_cps (x : Ev) (hx : EvIn x) (w : World) (R : Ending → World → Prop) (hR : ∀ w', Mod [] w w' → R (.returned (stV (encE x))) w') :
    Calls Tryz.prog 19 #[evV x] w R := by
  have hPa := enParts_cps x
  have hCk := enCheck_cps x hx
  have hb := hx.body
  have ht := hx.tag
  have hMy := enMay_cps x hb
  unfold evV evC at hMy hPa hCk ⊢
  refine calls_go 4000 okT Tryz.func19 rfl (rs := [.tmp 2, .tmp 3]) rfl Tryz.ntmps19 (args := [.agg #[.int .i64 x.f, .int .i64 x.t, .int .i64 x.fe, .int .i64 x.te, .int .i64 x.no, .string ⟨x.body.toArray⟩, .string ⟨x.tag.toArray⟩]]) ?_
  simp (maxSteps := 1000000) (disch := first | omega | (simp only [sizeAlloc, sizeDrew, sizeSet, sizePut] <;> omega) | fail) only [GS, TT_eq, TTl, Nat.reduceAdd, Nat.reduceMul, Nat.reduceSub, Nat.reduceDiv, Nat.reduceMod, Nat.reducePow, Nat.reduceEqDiff, ↓reduceIte, reduceCtorEq, Int.reduceToNat, Int.reduceAdd, Int.reduceSub, Int.reduceMul]
  generalize hW : w.alloc (.cells #[.int .i64 x.f, .int .i64 x.t, .int .i64 x.fe, .int .i64 x.te, .int .i64 x.no, .string ⟨x.body.toArray⟩, .string ⟨x.tag.toArray⟩] 42) = w1
  obtain ⟨hA, hM0⟩ := bx7 hW
  clear hW
  generalize hn : w.heap.size = n at *
  refine ⟨fok23, hCk _ _ fun w2 hM2 => .inl ⟨_, rfl, hold_ops okT (rs := [.tmp 2, .tmp 3]) rfl ?_⟩⟩
  have hA2 := hM2.get hA (by simp)
  have hM02 := hM0.trans hM2 (by simp)
  have hmh : mayE x = true → mayH x = true ∧ checkS x.tag = 0 := fun h => by unfold mayE at h; simpa using h
  unfold encE at hR
  cases hmm : mayE x
  · rw [hmm] at hR
    simp only [Bool.false_eq_true, if_false] at hR ⊢
    unfold stV at hR
    simp (maxSteps := 1000000) (disch := first | omega | (simp only [sizeAlloc, sizeDrew, sizeSet, sizePut] <;> omega) | fail) only [GS, TT_eq, TTl, Nat.reduceAdd, Nat.reduceMul, Nat.reduceSub, Nat.reduceDiv, Nat.reduceMod, Nat.reducePow, Nat.reduceEqDiff, ↓reduceIte, reduceCtorEq, Int.reduceToNat, Int.reduceAdd, Int.reduceSub, Int.reduceMul]
    exact hR _ hM02
  rw [hmm] at hR
  simp only [if_true] at hR ⊢
  obtain ⟨h0, h4⟩ := hmh hmm
  obtain ⟨h1, h2, h3⟩ := mayH_is h0
  have hl8 : ∀ s ∈ evM x, s.length ≤ 1000000 := by
    unfold evM
    intro s hs
    rcases List.mem_append.1 hs with hs | hs
    · exact evL_len h3 s hs
    · rw [List.mem_singleton.1 hs]; have := (check0 h4).2.2.1; omega
  clear hMy hCk hmh
  simp (maxSteps := 1000000) (disch := first | omega | (simp only [sizeAlloc, sizeDrew, sizeSet, sizePut] <;> omega) | fail) only [GS, TT_eq, TTl, Nat.reduceAdd, Nat.reduceMul, Nat.reduceSub, Nat.reduceDiv, Nat.reduceMod, Nat.reducePow, Nat.reduceEqDiff, ↓reduceIte, reduceCtorEq, Int.reduceToNat, Int.reduceAdd, Int.reduceSub, Int.reduceMul]
  refine hold_tree okT [0, 1, 0, 4, 12, 31, 63, 127, 127, 511, 1023] (.qop 0 (.qop 2 (.qop 3 (.eff 1 (.lin [4, 5, 6, 7, 8, 9, 10]) (.eff 4 (.lin [1, 5, 6, 7, 8, 9, 10]) .stop))))) (by kernel_rfl) ?_
  have hM_ := (Mod.refl [] w2).drewN 1
  generalize w2.drewN 1 = w3 at *
  replace hA2 := hM_.get hA2 (by simp)
  replace hM02 := hM02.trans hM_ (by simp)
  clear hM_
  have c3 := fun o => cellOf (o := o) hA2
  refine ht_val okT rfl rfl (v := .agg #[.int .i64 x.f, .int .i64 x.t, .int .i64 x.fe, .int .i64 x.te, .int .i64 x.no, .string ⟨x.body.toArray⟩, .string ⟨x.tag.toArray⟩]) (by simp (maxSteps := 1000000) (disch := first | omega | (simp only [sizeAlloc, sizeDrew, sizeSet, sizePut] <;> omega) | fail) only [GS, TT_eq, TTl, Nat.reduceAdd, Nat.reduceMul, Nat.reduceSub, Nat.reduceDiv, Nat.reduceMod, Nat.reducePow, Nat.reduceEqDiff, ↓reduceIte, reduceCtorEq, Int.reduceToNat, Int.reduceAdd, Int.reduceSub, Int.reduceMul, c3]) ?_
  refine ht_val okT rfl rfl (v := .pointer (some ⟨n, 6, none⟩)) (by simp (maxSteps := 1000000) (disch := first | omega | (simp only [sizeAlloc, sizeDrew, sizeSet, sizePut] <;> omega) | fail) only [GS, TT_eq, TTl, Nat.reduceAdd, Nat.reduceMul, Nat.reduceSub, Nat.reduceDiv, Nat.reduceMod, Nat.reducePow, Nat.reduceEqDiff, ↓reduceIte, reduceCtorEq, Int.reduceToNat, Int.reduceAdd, Int.reduceSub, Int.reduceMul]) ?_
  refine ht_val okT rfl rfl (v := .string ⟨x.tag.toArray⟩) (by simp (maxSteps := 1000000) (disch := first | omega | (simp only [sizeAlloc, sizeDrew, sizeSet, sizePut] <;> omega) | fail) only [GS, TT_eq, TTl, Nat.reduceAdd, Nat.reduceMul, Nat.reduceSub, Nat.reduceDiv, Nat.reduceMod, Nat.reducePow, Nat.reduceEqDiff, ↓reduceIte, reduceCtorEq, Int.reduceToNat, Int.reduceAdd, Int.reduceSub, Int.reduceMul, c3]) ?_
  simp (maxSteps := 1000000) only [GS, TT_eq, TTl, Nat.reduceAdd, Nat.reduceMul, Nat.reduceSub, Nat.reduceDiv, Nat.reduceMod, Nat.reducePow, Nat.reduceEqDiff, ↓reduceIte, reduceCtorEq, Int.reduceToNat, Int.reduceAdd, Int.reduceSub, Int.reduceMul]
  have d3 : w3.cell? ⟨n, 6, none⟩ = some (.string ⟨x.tag.toArray⟩) := c3 6
  clear c3
  refine ht_call okT rfl rfl ?_ ?_
  · simp (maxSteps := 1000000) (disch := first | omega | (simp only [sizeAlloc, sizeDrew, sizeSet, sizePut] <;> omega) | fail) only [GS, TT_eq, TTl, Nat.reduceAdd, Nat.reduceMul, Nat.reduceSub, Nat.reduceDiv, Nat.reduceMod, Nat.reducePow, Nat.reduceEqDiff, ↓reduceIte, reduceCtorEq, Int.reduceToNat, Int.reduceAdd, Int.reduceSub, Int.reduceMul]
    refine ⟨fok49, hPa h1 _ _ fun v w4 ho hM_ => .inl ⟨_, rfl, ?_⟩⟩
    first | refine ⟨(by repeat' (first | exact agg7 hA2 hM_ | exact cellMS14 d3 hM_ (by simp) | apply And.intro)), ?_⟩ | skip
    have hw03 := hM02.size
    replace d3 := cellMS14 d3 hM_ (by simp)
    replace hA2 := hM_.get hA2 (by simp)
    replace hM02 := hM02.trans hM_ (by simp)
    have hw3 := hM_.size
    clear hM_
    refine ht_lin rfl (hold_dops okT (rs := [.tmp 2, .tmp 3]) rfl ?_)
    simp (maxSteps := 1000000) (disch := first | omega | (simp only [sizeAlloc, sizeDrew, sizeSet, sizePut] <;> omega) | fail) only [GS, TT_eq, TTl, Nat.reduceAdd, Nat.reduceMul, Nat.reduceSub, Nat.reduceDiv, Nat.reduceMod, Nat.reducePow, Nat.reduceEqDiff, ↓reduceIte, reduceCtorEq, Int.reduceToNat, Int.reduceAdd, Int.reduceSub, Int.reduceMul]
    have hM_ := (Mod.refl [] w4).alloc (.cells #[.string ⟨x.tag.toArray⟩] 9)
    have hrd := Rd.lit (w := w4) (size := 1) (n := 1) (e := 9) (xs := [.string ⟨x.tag.toArray⟩]) rfl
    refine ⟨(by repeat' (first | exact agg7 hA2 hM_ | exact cellMS14 d3 hM_ (by simp) | apply And.intro)), ?_⟩
    replace ho := ownsRow_mod ho hM_ (by simp)
    replace hM02 := hM02.trans hM_ (by simp)
    have hw4 := hM_.size
    clear hM_
    have hwa := hM02.size
    refine hold_dappendR okT rfl rfl rfl rfl (by decide) w3.heap.size ho rfl rfl hrd (by intro u hu; rw [List.mem_singleton.1 hu]; rfl) (by rw [evL_7]; simp only; omega) (by rw [evL_7]; unfold maxLen; omega) (by omega) fun v' w7 ho7 hM7 => ⟨(by simp (maxSteps := 1000000) only [GS, TT_eq, TTl, Nat.reduceAdd, Nat.reduceMul, Nat.reduceSub, Nat.reduceDiv, Nat.reduceMod, Nat.reducePow, Nat.reduceEqDiff, ↓reduceIte, reduceCtorEq, Int.reduceToNat, Int.reduceAdd, Int.reduceSub, Int.reduceMul]), hold_dops okT (rs := [.tmp 2, .tmp 3]) rfl ?_⟩
    simp (maxSteps := 1000000) (disch := first | omega | (simp only [sizeAlloc, sizeDrew, sizeSet, sizePut] <;> omega) | fail) only [GS, TT_eq, TTl, Nat.reduceAdd, Nat.reduceMul, Nat.reduceSub, Nat.reduceDiv, Nat.reduceMod, Nat.reducePow, Nat.reduceEqDiff, ↓reduceIte, reduceCtorEq, Int.reduceToNat, Int.reduceAdd, Int.reduceSub, Int.reduceMul]
    refine ⟨fok48, tRow_cps v' (evM x) _ _ (by rw [evM_8]; omega) hl8 (by have := Rd.own ho7; unfold evM; rw [List.length_append, List.map_append]; exact this) fun w8 hM8 => .inl ⟨_, rfl, ?_⟩⟩
    refine hold_dops okT (rs := [.tmp 2, .tmp 3]) rfl ?_
    unfold stV at hR ⊢
    simp (maxSteps := 1000000) (disch := first | omega | (simp only [sizeAlloc, sizeDrew, sizeSet, sizePut] <;> omega) | fail) only [GS, TT_eq, TTl, Nat.reduceAdd, Nat.reduceMul, Nat.reduceSub, Nat.reduceDiv, Nat.reduceMod, Nat.reducePow, Nat.reduceEqDiff, ↓reduceIte, reduceCtorEq, Int.reduceToNat, Int.reduceAdd, Int.reduceSub, Int.reduceMul]
    exact hR _ ((hM02.trans hM7 (fun y hy => .inr (by have := (ho.lt y (by simpa using hy)).1; omega))).trans hM8 (by simp))
  · refine ht_eff okT rfl rfl (v := .slice (some ⟨w3.heap.size, 0, none⟩) 1 1) (w' := w3.alloc (.cells #[.string ⟨x.tag.toArray⟩] 9)) (by simp (maxSteps := 1000000) only [GS, TT_eq, TTl, Nat.reduceAdd, Nat.reduceMul, Nat.reduceSub, Nat.reduceDiv, Nat.reduceMod, Nat.reducePow, Nat.reduceEqDiff, ↓reduceIte, reduceCtorEq, Int.reduceToNat, Int.reduceAdd, Int.reduceSub, Int.reduceMul]) ?_ ?_ ht_stop
    all_goals have hM_ := (Mod.refl [] w3).alloc (.cells #[.string ⟨x.tag.toArray⟩] 9)
    all_goals have hrd := Rd.lit (w := w3) (size := 1) (n := 1) (e := 9) (xs := [.string ⟨x.tag.toArray⟩]) rfl
    all_goals generalize w3.alloc (.cells #[.string ⟨x.tag.toArray⟩] 9) = w4 at hM_ hrd ⊢
    · simp (maxSteps := 1000000) only [GS, TT_eq, TTl, Nat.reduceAdd, Nat.reduceMul, Nat.reduceSub, Nat.reduceDiv, Nat.reduceMod, Nat.reducePow, Nat.reduceEqDiff, ↓reduceIte, reduceCtorEq, Int.reduceToNat, Int.reduceAdd, Int.reduceSub, Int.reduceMul]
      repeat' (first | exact agg7 hA2 hM_ | exact cellMS14 d3 hM_ (by simp) | apply And.intro)
    replace d3 := cellMS14 d3 hM_ (by simp)
    replace hA2 := hM_.get hA2 (by simp)
    replace hM02 := hM02.trans hM_ (by simp)
    clear hM_
    generalize w3.heap.size = q3 at *
    simp (maxSteps := 1000000) only [GS, TT_eq, TTl, Nat.reduceAdd, Nat.reduceMul, Nat.reduceSub, Nat.reduceDiv, Nat.reduceMod, Nat.reducePow, Nat.reduceEqDiff, ↓reduceIte, reduceCtorEq, Int.reduceToNat, Int.reduceAdd, Int.reduceSub, Int.reduceMul]
    refine ht_lin rfl (hold_dops okT (rs := [.tmp 2, .tmp 3]) rfl ?_)
    simp (maxSteps := 1000000) (disch := first | omega | (simp only [sizeAlloc, sizeDrew, sizeSet, sizePut] <;> omega) | fail) only [GS, TT_eq, TTl, Nat.reduceAdd, Nat.reduceMul, Nat.reduceSub, Nat.reduceDiv, Nat.reduceMod, Nat.reducePow, Nat.reduceEqDiff, ↓reduceIte, reduceCtorEq, Int.reduceToNat, Int.reduceAdd, Int.reduceSub, Int.reduceMul]
    refine ⟨fok49, hPa h1 _ _ fun v w5 ho hM_ => .inl ⟨_, rfl, ?_⟩⟩
    first | refine ⟨(by repeat' (first | exact agg7 hA2 hM_ | exact cellMS14 d3 hM_ (by simp) | apply And.intro)), hold_dops okT (rs := [.tmp 2, .tmp 3]) rfl ?_⟩ | refine hold_dops okT (rs := [.tmp 2, .tmp 3]) rfl ?_
    replace hrd := hrd.mod hM_ (by simp)
    have hwb := hM02.size
    replace hM02 := hM02.trans hM_ (by simp)
    have hw5 := hM_.size
    clear hM_
    simp (maxSteps := 1000000) (disch := first | omega | (simp only [sizeAlloc, sizeDrew, sizeSet, sizePut] <;> omega) | fail) only [GS, TT_eq, TTl, Nat.reduceAdd, Nat.reduceMul, Nat.reduceSub, Nat.reduceDiv, Nat.reduceMod, Nat.reducePow, Nat.reduceEqDiff, ↓reduceIte, reduceCtorEq, Int.reduceToNat, Int.reduceAdd, Int.reduceSub, Int.reduceMul]
    refine hold_dappendR okT rfl rfl rfl rfl (by decide) w4.heap.size ho rfl rfl hrd (by intro u hu; rw [List.mem_singleton.1 hu]; rfl) (by rw [evL_7]; simp only; omega) (by rw [evL_7]; unfold maxLen; omega) (by omega) fun v' w7 ho7 hM7 => ⟨(by simp (maxSteps := 1000000) only [GS, TT_eq, TTl, Nat.reduceAdd, Nat.reduceMul, Nat.reduceSub, Nat.reduceDiv, Nat.reduceMod, Nat.reducePow, Nat.reduceEqDiff, ↓reduceIte, reduceCtorEq, Int.reduceToNat, Int.reduceAdd, Int.reduceSub, Int.reduceMul]), hold_dops okT (rs := [.tmp 2, .tmp 3]) rfl ?_⟩
    simp (maxSteps := 1000000) (disch := first | omega | (simp only [sizeAlloc, sizeDrew, sizeSet, sizePut] <;> omega) | fail) only [GS, TT_eq, TTl, Nat.reduceAdd, Nat.reduceMul, Nat.reduceSub, Nat.reduceDiv, Nat.reduceMod, Nat.reducePow, Nat.reduceEqDiff, ↓reduceIte, reduceCtorEq, Int.reduceToNat, Int.reduceAdd, Int.reduceSub, Int.reduceMul]
    refine ⟨fok48, tRow_cps v' (evM x) _ _ (by rw [evM_8]; omega) hl8 (by have := Rd.own ho7; unfold evM; rw [List.length_append, List.map_append]; exact this) fun w8 hM8 => .inl ⟨_, rfl, ?_⟩⟩
    refine hold_dops okT (rs := [.tmp 2, .tmp 3]) rfl ?_
    unfold stV at hR ⊢
    simp (maxSteps := 1000000) (disch := first | omega | (simp only [sizeAlloc, sizeDrew, sizeSet, sizePut] <;> omega) | fail) only [GS, TT_eq, TTl, Nat.reduceAdd, Nat.reduceMul, Nat.reduceSub, Nat.reduceDiv, Nat.reduceMod, Nat.reducePow, Nat.reduceEqDiff, ↓reduceIte, reduceCtorEq, Int.reduceToNat, Int.reduceAdd, Int.reduceSub, Int.reduceMul]
    exact hR _ ((hM02.trans hM7 (fun y hy => .inr (by have := (ho.lt y (by simpa using hy)).1; omega))).trans hM8 (by simp))
end Go.Proofs.YthnlmmkhehphiaaGreatDoor
