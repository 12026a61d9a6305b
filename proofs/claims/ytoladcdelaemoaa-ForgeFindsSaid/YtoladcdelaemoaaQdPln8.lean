/-
  forge.How (walk).
-/
import Derived.Test.YtoladcdelaemoaaQdPln7
import Derived.Test.YtoladcdelaemoaaQdKnw6
import Derived.Test.YtoladcdelaemoaaQdFrg6
set_option linter.unusedSimpArgs false
set_option linter.unusedVariables false
set_option maxRecDepth 20000
namespace Go.Proofs.Ytoladcdelaemoaa
open Go Go.Wk Go.RowKit
attribute [local irreducible] go Hold
open Go.Lib
theorem stp_flat (l : List Stp) : (l.flatMap stpC).length = l.length * 7 := flat_len stpC 7 stpC_len l
theorem rd_preS {w : World} {a : Option Addr} {c n : Nat} {l : List Stp} (h : Rd w 7 (.slice a l.length c) l.length (l.flatMap stpC)) (hn : n ≤ l.length) : Rd w 7 (.slice a n c) n ((l.take n).flatMap stpC) := by
  obtain ⟨hl, a', c', e, hc, g⟩ := h
  rw [Value.slice.injEq] at e
  obtain ⟨rfl, -, rfl⟩ := e
  refine ⟨by rw [stp_flat, List.length_take]; omega, a, c, rfl, by omega, fun j u hj => g j u ?_⟩
  have h1 : l.flatMap stpC = (l.take n).flatMap stpC ++ (l.drop n).flatMap stpC := by rw [← List.flatMap_append, List.take_append_drop]
  rw [h1, List.getElem?_append_left (List.getElem?_eq_some_iff.1 hj).1]
  exact hj
theorem last_take {l : List Tm} {m : Nat} {x : Tm} (h : l[m]? = some x) : lastS (l.take (m + 1)) = x := by
  obtain ⟨q, e⟩ := List.getElem?_eq_some_iff.1 h
  unfold lastS
  rw [List.length_take, Nat.min_eq_left (by omega), Nat.add_sub_cancel, List.getD_eq_getElem?_getD, List.getElem?_take_of_lt (by omega), h]
  rfl
noncomputable def best (P : Nat → Prop) : Nat → Nat
  | 0 => 0
  | n + 1 => if @decide (P n) (Classical.propDecidable _) = true then n else best P n
theorem best_spec {P : Nat → Prop} : ∀ {N i : Nat}, i < N → P i → P (best P N) ∧ i ≤ best P N ∧ best P N < N
  | N + 1, i, h, hp => by
    unfold best
    by_cases hN : P N
    · rw [if_pos (@decide_eq_true _ (Classical.propDecidable _) hN)]
      exact ⟨hN, by omega, by omega⟩
    · rw [if_neg (by rw [@decide_eq_true_iff _ (Classical.propDecidable _)]; exact hN)]
      have hi : i ≠ N := by rintro rfl; exact hN hp
      obtain ⟨a, b, c⟩ := best_spec (P := P) (N := N) (i := i) (by omega) hp
      exact ⟨a, b, by omega⟩
/-- What the second loop keeps. -/
def OpI (xs U : List Tm) (pp mr : Nat) (B0 : List Nat) (w5 w' : World) (i : Nat) : Prop :=
  ∃ s lv tv, s.E.length = i ∧ PlOk xs U s ∧ (∀ x ∈ s.t, Dn s.t x) ∧ (∀ x ∈ okL xs, x ∈ s.t) ∧ s.l.length ≤ 2 * s.E.length + 40 ∧ PlAt w' pp lv tv mr s ∧ Mv w5 w' B0 (blks pp mr lv tv s.l)
theorem OpI.lt {xs U : List Tm} {pp mr : Nat} {B0 : List Nat} {w5 w' : World} {i : Nat} (h : OpI xs U pp mr B0 w5 w' i) : i < U.length + 1 := by
  obtain ⟨s, lv, tv, rfl, hs, _⟩ := h
  have := hs.num
  omega
theorem run_at {xs U : List Tm} {s : Pl} {m : Nat} {x : Tm} (h : PlOk xs U s) (hm : s.t[m]? = some x) : runR' (allT xs (s.l.take (m + 1))) = (x, 0, 0) := by
  have hlt := (List.getElem?_eq_some_iff.1 hm).1
  have hlen := h.len
  have h1 := runS_take (m + 1) h.run (by omega)
  rw [List.length_nil, Nat.zero_add] at h1
  have e : allT xs (s.l.take (m + 1)) = (s.t.take (m + 1), 0, 0) := by
    unfold allT
    rw [if_neg (by rw [List.length_take]; omega), h1]
  unfold runR'
  rw [e, if_pos rfl]
  show (lastS (s.t.take (m + 1)), 0, 0) = _
  rw [last_take hm]
theorem dn_all {s s' : Pl} {d : Nat} (h : Gr s s' d) (hd : ∀ x ∈ s.t, Dn s.t x) : ∀ x ∈ s'.t, Dn s'.t x := fun x hx => by
  rcases h.dn x hx with h1 | h1
  · exact (hd x h1).mono h.mem
  · exact h1
set_option maxRecDepth 20000 in
set_option maxHeartbeats 8000000 in
theorem how_cps (sa : Value) (xs : List Tm) (t : Tm) (w : World) (R : Ending → World → Prop) (hx : xs.length ≤ 40) (hxs : ∀ s ∈ xs, s.length ≤ maxLen) (ha : Rd w 1 sa xs.length (xs.map strV)) (hsum : sumL xs ≤ 6000) (ht : t.length ≤ 6000)
    (h0 : ¬ (checkS t = 0 ∧ MkT (AnT (okL xs)) t) → ∀ w', Mod [] w w' → R (.returned (.tuple #[.slice none 0 0, .bool false])) w')
    (h1 : (checkS t = 0 ∧ MkT (AnT (okL xs)) t) → ∀ ta st w', RdS w' ta st → st.length ≤ 32768 → runR' (allT xs st) = (t, 0, 0) → Mod [] w w' → R (.returned (.tuple #[ta, .bool true])) w') :
    Calls Try.prog 11 #[sa, .string ⟨t.toArray⟩] w R := by
  obtain ⟨a, ca, rfl⟩ := ha.slice
  refine calls_go 4000 okT Try.func11 rfl (rs := [.tmp 4, .tmp 5]) rfl Try.ntmps11 (args := [.slice a xs.length ca, .string ⟨t.toArray⟩]) ?_
  simp (maxSteps := 1000000) (disch := first | omega | (simp only [sizeAlloc, sizeDrew, sizeSet, sizePut] <;> omega) | fail) only [GS, TT_eq, TTl, Nat.reduceAdd, Nat.reduceMul, Nat.reduceSub, Nat.reduceDiv, Nat.reduceMod, Nat.reducePow, Nat.reduceEqDiff, ↓reduceIte, reduceCtorEq, Int.reduceToNat, Int.reduceAdd, Int.reduceSub, Int.reduceMul]
  refine ⟨fok33, new_cps w _ fun w1 kp mr hK1 hkp hmr hM1 => .inl ⟨_, rfl, hold_ops okT (rs := [.tmp 4, .tmp 5]) rfl ?_⟩⟩
  simp (maxSteps := 1000000) (disch := first | omega | (simp only [sizeAlloc, sizeDrew, sizeSet, sizePut] <;> omega) | fail) only [GS, TT_eq, TTl, Nat.reduceAdd, Nat.reduceMul, Nat.reduceSub, Nat.reduceDiv, Nat.reduceMod, Nat.reducePow, Nat.reduceEqDiff, ↓reduceIte, reduceCtorEq, Int.reduceToNat, Int.reduceAdd, Int.reduceSub, Int.reduceMul]
  refine hold_loop okT (rs := [.tmp 4, .tmp 5]) rfl [16] [4, 5, 8, 17, 18, 19, 20, 21, 22, 23, 24] (fun vs w' => ∃ (k : Nat) (mr : Nat) (E : List Ent), k ≤ xs.length ∧ vs = [.int .i64 k] ∧ KnIs (okL (xs.take k)) E ∧ FinE E ∧ KnAt w' kp mr E ∧ Mod [] w w') (fun vs _ => match vs with | [.int _ i] => xs.length - i.toNat | _ => 0) (by kernel_rfl) ⟨0, mr, [], by omega, rfl, KnIs.nil, Fin.nil, hK1, hM1⟩ ?_
  rintro vs w2 J ⟨k, mr2, E, hk, rfl, hI, hF, hK, hM⟩
  by_cases hlt : k < xs.length
  · obtain ⟨b1, o1, c1, e1, _, g1⟩ := (ha.mod hM (by simp)).at (by omega) (by omega)
    have f1 := g1 k _ (getS hlt)
    rw [Value.slice.injEq] at e1
    obtain ⟨rfl, -, -⟩ := e1
    have htk := List.take_succ_eq_append_getElem hlt
    have hzl := hxs _ (List.getElem_mem hlt)
    have hs1 := sumL_take xs (k + 1)
    rw [htk] at hs1
    generalize xs[k] = z at *
    simp (maxSteps := 1000000) (disch := first | omega | (simp only [sizeAlloc, sizeDrew, sizeSet, sizePut] <;> omega) | fail) only [GS, TT_eq, TTl, Nat.reduceAdd, Nat.reduceMul, Nat.reduceSub, Nat.reduceDiv, Nat.reduceMod, Nat.reducePow, Nat.reduceEqDiff, ↓reduceIte, reduceCtorEq, Int.reduceToNat, Int.reduceAdd, Int.reduceSub, Int.reduceMul, f1]
    refine ⟨fok34, learn_cps _ (okL_ok _) E hI hF z hzl kp mr2 w2 hK _ (fun hc w3 hM3 => ?_) (fun hc E3 mr3 w3 hI3 hF3 _ hK3 _ hM3 => ?_) (fun hc E3 w3 hI3 hn3 hM3 => ?_)⟩
    · refine .inl ⟨_, rfl, hold_ops okT (rs := [.tmp 4, .tmp 5]) rfl ?_⟩
      simp (maxSteps := 1000000) (disch := first | omega | (simp only [sizeAlloc, sizeDrew, sizeSet, sizePut] <;> omega) | fail) only [GS, TT_eq, TTl, Nat.reduceAdd, Nat.reduceMul, Nat.reduceSub, Nat.reduceDiv, Nat.reduceMod, Nat.reducePow, Nat.reduceEqDiff, ↓reduceIte, reduceCtorEq, Int.reduceToNat, Int.reduceAdd, Int.reduceSub, Int.reduceMul]
      refine ⟨⟨k + 1, mr2, E, by omega, rfl, ?_, hF, hK.mod0 hM3, hM.trans hM3 (by simp)⟩, by omega⟩
      rw [htk, okL_app, okL_no hc, List.append_nil]
      exact hI
    · refine .inl ⟨_, rfl, hold_ops okT (rs := [.tmp 4, .tmp 5]) rfl ?_⟩
      simp (maxSteps := 1000000) (disch := first | omega | (simp only [sizeAlloc, sizeDrew, sizeSet, sizePut] <;> omega) | fail) only [GS, TT_eq, TTl, Nat.reduceAdd, Nat.reduceMul, Nat.reduceSub, Nat.reduceDiv, Nat.reduceMod, Nat.reducePow, Nat.reduceEqDiff, ↓reduceIte, reduceCtorEq, Int.reduceToNat, Int.reduceAdd, Int.reduceSub, Int.reduceMul]
      refine ⟨⟨k + 1, mr3, E3, by omega, rfl, ?_, hF3, hK3, hM.trans hM3 (by intro y hy; simp only [List.mem_singleton] at hy; subst hy; exact .inr hkp)⟩, by omega⟩
      rw [htk, okL_app, okL_one hc]
      exact hI3
    · exfalso
      have hok : ∀ s ∈ okL (xs.take k) ++ [z], checkS s = 0 := by intro s hs; rcases List.mem_append.1 hs with h | h; exact okL_ok _ s h; simp only [List.mem_singleton] at h; rw [h]; exact hc
      have h1 := hI3.small hok
      have h2 := sumL_ok (xs.take k)
      rw [sumL_app] at h1 hs1
      omega
  have e : k = xs.length := by omega
  subst e
  rw [List.take_length] at hI
  have hcan : (decide (checkS t = 0) && mkB E t) = true ↔ (checkS t = 0 ∧ MkT (AnT (okL xs)) t) := by
    rw [Bool.and_eq_true, decide_eq_true_eq, mkB_iff, hI.makes hF (okL_ok xs)]
  simp (maxSteps := 1000000) (disch := first | omega | (simp only [sizeAlloc, sizeDrew, sizeSet, sizePut] <;> omega) | fail) only [GS, TT_eq, TTl, Nat.reduceAdd, Nat.reduceMul, Nat.reduceSub, Nat.reduceDiv, Nat.reduceMod, Nat.reducePow, Nat.reduceEqDiff, ↓reduceIte, reduceCtorEq, Int.reduceToNat, Int.reduceAdd, Int.reduceSub, Int.reduceMul]
  refine ⟨fok12, Can_cps E t (by unfold maxLen; omega) kp mr2 w2 hK _ fun w3 hM3 => .inl ⟨_, rfl, hold_ops okT (rs := [.tmp 4, .tmp 5]) rfl ?_⟩⟩
  have hM03 := hM.trans hM3 (by simp)
  by_cases hc : checkS t = 0 ∧ MkT (AnT (okL xs)) t
  rotate_left
  · rw [Bool.eq_false_iff.2 (fun h => hc (hcan.1 h))]
    simp (maxSteps := 1000000) (disch := first | omega | (simp only [sizeAlloc, sizeDrew, sizeSet, sizePut] <;> omega) | fail) only [GS, TT_eq, TTl, Nat.reduceAdd, Nat.reduceMul, Nat.reduceSub, Nat.reduceDiv, Nat.reduceMod, Nat.reducePow, Nat.reduceEqDiff, ↓reduceIte, reduceCtorEq, Int.reduceToNat, Int.reduceAdd, Int.reduceSub, Int.reduceMul]
    exact h0 hc _ hM03
  rw [hcan.2 hc]
  replace h1 := h1 hc
  obtain ⟨hct, hmk⟩ := hc
  clear hcan hI hF hK hM hM3 h0 hK1 hkp hmr hM1 hlt
  have hall : ∀ x ∈ okL xs ++ [t], checkS x = 0 := by
    intro x hx
    rcases List.mem_append.1 hx with h | h
    · exact okL_ok _ x h
    · rw [List.mem_singleton.1 h]; exact hct
  have hU : ∀ x ∈ subs (okL xs ++ [t]), checkS x = 0 ∧ ∀ p ∈ partsS x, p ∈ subs (okL xs ++ [t]) := fun x hx => subs_part hall hx
  have hUl := subs_len hall
  have hUx : ∀ x ∈ okL xs, x ∈ subs (okL xs ++ [t]) := fun x hx => subs_self hall (List.mem_append_left _ hx)
  have hUt : t ∈ subs (okL xs ++ [t]) := subs_self hall (by simp)
  have hUn : (subs (okL xs ++ [t])).length ≤ 12000 := by
    have h2 := sumL_ok xs
    have h3 : sumL (okL xs ++ [t]) = sumL (okL xs) + sumL [t] := sumL_app _ _
    have h4 : sumL [t] = t.length := by simp [sumL]
    unfold sumL at hsum h2 h3 h4
    omega
  generalize subs (okL xs ++ [t]) = U at *
  clear hall hUl
  simp (maxSteps := 1000000) (disch := first | omega | (simp only [sizeAlloc, sizeDrew, sizeSet, sizePut] <;> omega) | fail) only [GS, TT_eq, TTl, Nat.reduceAdd, Nat.reduceMul, Nat.reduceSub, Nat.reduceDiv, Nat.reduceMod, Nat.reducePow, Nat.reduceEqDiff, ↓reduceIte, reduceCtorEq, Int.reduceToNat, Int.reduceAdd, Int.reduceSub, Int.reduceMul]
  refine hold_makeMapW rfl fun w4 hm4 hM4 => hold_ops okT (rs := [.tmp 4, .tmp 5]) rfl ?_
  have hsz3 := hM03.size
  have hsz4 := hM4.size
  have hM04 := hM03.trans hM4 (by simp)
  generalize w3.heap.size = mr at *
  simp (maxSteps := 1000000) (disch := first | omega | (simp only [sizeAlloc, sizeDrew, sizeSet, sizePut] <;> omega) | fail) only [GS, TT_eq, TTl, Nat.reduceAdd, Nat.reduceMul, Nat.reduceSub, Nat.reduceDiv, Nat.reduceMod, Nat.reducePow, Nat.reduceEqDiff, ↓reduceIte, reduceCtorEq, Int.reduceToNat, Int.reduceAdd, Int.reduceSub, Int.reduceMul]
  have hA5 : PlAt (w4.alloc (.cells #[.slice none 0 0, .slice none 0 0, .map (some mr)] 60)) w4.heap.size (.slice none 0 0) (.slice none 0 0) mr ⟨[], [], []⟩ := ⟨heapNew, World.ownsRow_nil _ _ _ _, World.ownsRow_nil _ _ _ _, hm4.mod ((Mod.refl [] w4).alloc _) (by simp), by simp, by simp [listB]⟩
  have hM05 := hM04.trans ((Mod.refl [] w4).alloc (.cells #[.slice none 0 0, .slice none 0 0, .map (some mr)] 60)) (by simp)
  generalize w4.alloc (.cells #[.slice none 0 0, .slice none 0 0, .map (some mr)] 60) = w5 at *
  have hpp4 : w.heap.size ≤ w4.heap.size := by omega
  generalize w4.heap.size = pp at *
  have hback : ∀ w', Mod (blks pp mr (.slice none 0 0) (.slice none 0 0) []) w5 w' → Mod [] w w' := fun w' h => hM05.trans h (by
    intro y hy
    simp only [blks, Value.ownBlock, listB, List.filterMap_nil, Option.toList, List.append_nil, List.mem_cons, List.not_mem_nil, or_false] at hy
    rcases hy with rfl | rfl
    · exact .inr hpp4
    · exact .inr hsz3)
  generalize hB0 : blks pp mr (.slice none 0 0) (.slice none 0 0) [] = B0 at *
  refine hold_loop okT (rs := [.tmp 4, .tmp 5]) rfl [34] [10, 11, 35, 36, 37, 38, 39, 40, 41, 42, 43, 44, 45, 46, 47, 48, 49, 50] (fun vs w' => ∃ (k : Nat) (s : Pl) (lv tv : Value), k ≤ xs.length ∧ vs = [.int .i64 k] ∧ PlOk xs U s ∧ (∀ x ∈ s.t, Dn s.t x) ∧ (∀ x ∈ okL (xs.take k), x ∈ s.t) ∧ s.l.length ≤ s.E.length + k ∧ PlAt w' pp lv tv mr s ∧ Mv w5 w' B0 (blks pp mr lv tv s.l)) (fun vs _ => match vs with | [.int _ i] => xs.length - i.toNat | _ => 0) (by kernel_rfl) ⟨0, ⟨[], [], []⟩, .slice none 0 0, .slice none 0 0, by omega, rfl, ⟨rfl, by simp, by simp, by simp, by simp [keysP], by simp⟩, by simp, by simp [okL], by simp, hA5, by rw [hB0]; exact Mv.refl _ _⟩ ?_
  rintro vs w6 J2 ⟨k, s, lv, tv, hk, rfl, hs, hdn, hin, hnum, hA6, hMv6⟩
  have ha6 := ha.mod (hback _ hMv6.md) (by simp)
  have hlen := hs.len
  have hE := hs.num
  by_cases hlt : k < xs.length
  · obtain ⟨b1, o1, c1, e1, _, g1⟩ := ha6.at (by omega) (by omega)
    have f1 := g1 k _ (getS hlt)
    rw [Value.slice.injEq] at e1
    obtain ⟨rfl, -, -⟩ := e1
    have htk := List.take_succ_eq_append_getElem hlt
    have hzm := List.getElem_mem hlt
    have hzl := hxs _ hzm
    have hzi : xs[k]? = some xs[k] := List.getElem?_eq_getElem hlt
    have hzo : checkS xs[k] = 0 → xs[k] ∈ okL xs := fun h => by unfold okL; rw [List.mem_filter]; exact ⟨hzm, by simp [h]⟩
    generalize xs[k] = z at *
    simp (maxSteps := 1000000) (disch := first | omega | (simp only [sizeAlloc, sizeDrew, sizeSet, sizePut] <;> omega) | fail) only [GS, TT_eq, TTl, Nat.reduceAdd, Nat.reduceMul, Nat.reduceSub, Nat.reduceDiv, Nat.reduceMod, Nat.reducePow, Nat.reduceEqDiff, ↓reduceIte, reduceCtorEq, Int.reduceToNat, Int.reduceAdd, Int.reduceSub, Int.reduceMul, f1]
    refine ⟨fok25, tCheck_cps z hzl w6 _ fun w7 hM7 => .inl ⟨_, rfl, hold_ops okT (rs := [.tmp 4, .tmp 5]) rfl ?_⟩⟩
    have hA7 := hA6.mod0 hM7
    have hMv7 := hMv6.trans (.of0 hM7)
    by_cases hc : checkS z = 0
    rotate_left
    · simp (maxSteps := 1000000) (disch := first | omega | (simp only [sizeAlloc, sizeDrew, sizeSet, sizePut] <;> omega) | fail) only [GS, TT_eq, TTl, Nat.reduceAdd, Nat.reduceMul, Nat.reduceSub, Nat.reduceDiv, Nat.reduceMod, Nat.reducePow, Nat.reduceEqDiff, ↓reduceIte, reduceCtorEq, Int.reduceToNat, Int.reduceAdd, Int.reduceSub, Int.reduceMul, hc]
      refine ⟨⟨k + 1, s, lv, tv, by omega, rfl, hs, hdn, ?_, by omega, hA7, hMv7⟩, by omega⟩
      rw [htk, okL_app, okL_no hc, List.append_nil]
      exact hin
    rw [hc]
    obtain ⟨st1, st2⟩ := stp_seen (seen := xs) (l := s.t) (sv := .slice none 0 0) hzi hc
    have hzU := hUx z (hzo hc)
    simp (maxSteps := 1000000) (disch := first | omega | (simp only [sizeAlloc, sizeDrew, sizeSet, sizePut] <;> omega) | fail) only [GS, TT_eq, TTl, Nat.reduceAdd, Nat.reduceMul, Nat.reduceSub, Nat.reduceDiv, Nat.reduceMod, Nat.reducePow, Nat.reduceEqDiff, ↓reduceIte, reduceCtorEq, Int.reduceToNat, Int.reduceAdd, Int.reduceSub, Int.reduceMul]
    refine ⟨fok36, pPut_cps pp lv tv mr s z ⟨1, 0, 0, 0, k, [], [], .slice none 0 0⟩ w7 _ hA7 (by omega) hs.len (by have := (check0 hc).2.2.1; omega) hs.nd (stp_in (by omega) (by omega) (by omega) (by omega) (by omega) (by simp)) (by intro b hb; cases hb) fun lv8 tv8 w8 hA8 hM8 hb8 => ?_⟩
    have hMv8 := Mv.put hM8 hb8 rfl
    refine .inl ⟨_, rfl, hold_ops okT (rs := [.tmp 4, .tmp 5]) rfl ?_⟩
    have hs8 := hs.put st1 st2 hc hzU
    have hE8 := putP_E' (s := s) (x := z) (st := ⟨1, 0, 0, 0, k, [], [], .slice none 0 0⟩)
    simp (maxSteps := 1000000) (disch := first | omega | (simp only [sizeAlloc, sizeDrew, sizeSet, sizePut] <;> omega) | fail) only [GS, TT_eq, TTl, Nat.reduceAdd, Nat.reduceMul, Nat.reduceSub, Nat.reduceDiv, Nat.reduceMod, Nat.reducePow, Nat.reduceEqDiff, ↓reduceIte, reduceCtorEq, Int.reduceToNat, Int.reduceAdd, Int.reduceSub, Int.reduceMul]
    refine ⟨fok35, pApart_cps xs U hU (by omega) pp mr z.length z (Nat.le_refl _) hzU s.l.length (putP s z ⟨1, 0, 0, 0, k, [], [], .slice none 0 0⟩) lv8 tv8 w8 _ hs8 ?_ ?_ hA8 fun s9 lv9 tv9 w9 hs9 hG9 hD9 hA9 hMv9 => .inl ⟨_, rfl, hold_ops okT (rs := [.tmp 4, .tmp 5]) rfl ?_⟩⟩
    · show (s.l ++ [_]).length ≤ _
      rw [List.length_append, List.length_cons, List.length_nil]
      omega
    · show (s.t ++ [z])[s.l.length]? = _
      rw [← hs.len, List.getElem?_append_right (Nat.le_refl _)]
      simp
    have hGp := Gr.putD hG9 hD9
    have hz9 : z ∈ s9.t := hG9.mem _ (by show _ ∈ s.t ++ [z]; simp)
    have hnum9 := hGp.num
    simp (maxSteps := 1000000) (disch := first | omega | (simp only [sizeAlloc, sizeDrew, sizeSet, sizePut] <;> omega) | fail) only [GS, TT_eq, TTl, Nat.reduceAdd, Nat.reduceMul, Nat.reduceSub, Nat.reduceDiv, Nat.reduceMod, Nat.reducePow, Nat.reduceEqDiff, ↓reduceIte, reduceCtorEq, Int.reduceToNat, Int.reduceAdd, Int.reduceSub, Int.reduceMul]
    refine ⟨⟨k + 1, s9, lv9, tv9, by omega, rfl, hs9, dn_all hGp hdn, ?_, by omega, hA9, (hMv7.trans (hMv8.trans hMv9))⟩, by omega⟩
    rw [htk, okL_app, okL_one hc]
    intro x hx
    rcases List.mem_append.1 hx with h | h
    · exact hGp.mem x (hin x h)
    · rw [List.mem_singleton.1 h]; exact hz9
  have e : k = xs.length := by omega
  subst e
  rw [List.take_length] at hin
  clear ha6 ha hA5
  simp (maxSteps := 1000000) (disch := first | omega | (simp only [sizeAlloc, sizeDrew, sizeSet, sizePut] <;> omega) | fail) only [GS, TT_eq, TTl, Nat.reduceAdd, Nat.reduceMul, Nat.reduceSub, Nat.reduceDiv, Nat.reduceMod, Nat.reducePow, Nat.reduceEqDiff, ↓reduceIte, reduceCtorEq, Int.reduceToNat, Int.reduceAdd, Int.reduceSub, Int.reduceMul]
  have hI6 : OpI xs U pp mr B0 w5 w6 s.E.length := ⟨s, lv, tv, rfl, hs, hdn, hin, by omega, hA6, hMv6⟩
  refine hold_loop okT (rs := [.tmp 4, .tmp 5]) rfl [] [51, 52, 53, 54, 55, 56, 57, 58] (fun vs w' => vs = [] ∧ ∃ i, OpI xs U pp mr B0 w5 w' i) (fun _ w' => U.length + 1 - best (fun i => OpI xs U pp mr B0 w5 w' i) (U.length + 1)) (by kernel_rfl) ⟨rfl, _, hI6⟩ ?_
  clear hI6 hA6 hMv6 hdn hin hnum hlen hE hs
  clear lv tv s
  rintro vs w7 J4 ⟨rfl, i0, hi0⟩
  obtain ⟨hP, hge, hbN⟩ := best_spec (P := fun i => OpI xs U pp mr B0 w5 w7 i) hi0.lt hi0
  generalize best _ (U.length + 1) = i at *
  obtain ⟨s, lv, tv, hEi, hs, hdn, hin, hnum, hA7, hMv7⟩ := hP
  have hE := hs.num
  simp (maxSteps := 1000000) (disch := first | omega | (simp only [sizeAlloc, sizeDrew, sizeSet, sizePut] <;> omega) | fail) only [GS, TT_eq, TTl, Nat.reduceAdd, Nat.reduceMul, Nat.reduceSub, Nat.reduceDiv, Nat.reduceMod, Nat.reducePow, Nat.reduceEqDiff, ↓reduceIte, reduceCtorEq, Int.reduceToNat, Int.reduceAdd, Int.reduceSub, Int.reduceMul]
  refine ⟨fok37, pCan_cps xs U s hs pp lv tv mr t.length t (Nat.le_refl _) hct w7 _ hA7 fun w8 hM8 => .inl ⟨_, rfl, hold_ops okT (rs := [.tmp 4, .tmp 5]) rfl ?_⟩⟩
  have hA8 := hA7.mod0 hM8
  have hMv8 := hMv7.trans (.of0 hM8)
  cases hcan : mkT s.t t with
  | false =>
    simp (maxSteps := 1000000) (disch := first | omega | (simp only [sizeAlloc, sizeDrew, sizeSet, sizePut] <;> omega) | fail) only [GS, TT_eq, TTl, Nat.reduceAdd, Nat.reduceMul, Nat.reduceSub, Nat.reduceDiv, Nat.reduceMod, Nat.reducePow, Nat.reduceEqDiff, ↓reduceIte, reduceCtorEq, Int.reduceToNat, Int.reduceAdd, Int.reduceSub, Int.reduceMul]
    refine ⟨fok38, pOpen_cps xs U hU (by omega) pp mr s lv tv w8 _ hs (by omega) hA8 (fun hsh => ?_) fun s9 lv9 tv9 w9 hs9 hG9 hlt9 hA9 hMv9 => .inl ⟨_, rfl, hold_ops okT (rs := [.tmp 4, .tmp 5]) rfl ?_⟩⟩
    · exfalso
      rw [plan_all hdn (fun x hx => .inl (hin x hx)) (fun x hx h6 => hsh x hx h6) hmk] at hcan
      cases hcan
    · have hg9 := hG9.num
      have hN : OpI xs U pp mr B0 w5 w9 s9.E.length := ⟨s9, lv9, tv9, rfl, hs9, dn_all hG9 hdn, fun x hx => hG9.mem x (hin x hx), by omega, hA9, hMv8.trans hMv9⟩
      have hb := (best_spec (P := fun i => OpI xs U pp mr B0 w5 w9 i) hN.lt hN).2
      have hNl := hN.lt
      simp (maxSteps := 1000000) (disch := first | omega | (simp only [sizeAlloc, sizeDrew, sizeSet, sizePut] <;> omega) | fail) only [GS, TT_eq, TTl, Nat.reduceAdd, Nat.reduceMul, Nat.reduceSub, Nat.reduceDiv, Nat.reduceMod, Nat.reducePow, Nat.reduceEqDiff, ↓reduceIte, reduceCtorEq, Int.reduceToNat, Int.reduceAdd, Int.reduceSub, Int.reduceMul]
      exact ⟨⟨_, hN⟩, by omega⟩
  | true =>
  simp (maxSteps := 1000000) (disch := first | omega | (simp only [sizeAlloc, sizeDrew, sizeSet, sizePut] <;> omega) | fail) only [GS, TT_eq, TTl, Nat.reduceAdd, Nat.reduceMul, Nat.reduceSub, Nat.reduceDiv, Nat.reduceMod, Nat.reducePow, Nat.reduceEqDiff, ↓reduceIte, reduceCtorEq, Int.reduceToNat, Int.reduceAdd, Int.reduceSub, Int.reduceMul]
  refine ⟨fok39, pMake_cps xs U hU (by omega) pp mr t.length t (Nat.le_refl _) hUt s lv tv w8 _ hs (by omega) (mkT_iff.1 hcan) hA8 fun m s9 lv9 tv9 w9 hs9 hG9 hnew9 hat9 hA9 hMv9 => .inl ⟨_, rfl, hold_ops okT (rs := [.tmp 4, .tmp 5]) rfl ?_⟩⟩
  have hg9 := hG9.num
  have hE9 := hs9.num
  have hl9 := hs9.len
  have hm9 := (List.getElem?_eq_some_iff.1 hat9).1
  have hrun := run_at hs9 hat9
  have hrd := Rd.own hA9.hl
  have c0 : w9.cell? ⟨pp, 0, none⟩ = some lv9 := by rw [cellOf hA9.hp]; rfl
  obtain ⟨b1, o1, c1, e1, hc1, _⟩ := hrd.at (by omega) (by omega)
  subst e1
  have hpre := rd_preS hrd (n := m + 1) (by omega)
  simp (maxSteps := 1000000) (disch := first | omega | (simp only [sizeAlloc, sizeDrew, sizeSet, sizePut] <;> omega) | fail) only [GS, TT_eq, TTl, Nat.reduceAdd, Nat.reduceMul, Nat.reduceSub, Nat.reduceDiv, Nat.reduceMod, Nat.reducePow, Nat.reduceEqDiff, ↓reduceIte, reduceCtorEq, Int.reduceToNat, Int.reduceAdd, Int.reduceSub, Int.reduceMul, c0]
  have em : ((m : Int) + 1).toNat = m + 1 := by omega
  have hlt9 : (s9.l.take (m + 1)).length = m + 1 := by rw [List.length_take]; omega
  rw [em]
  exact h1 _ (s9.l.take (m + 1)) w9 ⟨by rw [hlt9]; exact hpre, fun x hx => hA9.si x (List.mem_of_mem_take hx)⟩ (by rw [List.length_take]; omega) hrun (hback _ (hMv8.trans hMv9).md)
end Go.Proofs.Ytoladcdelaemoaa
