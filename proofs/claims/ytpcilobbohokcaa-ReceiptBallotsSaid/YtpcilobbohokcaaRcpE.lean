/-
  receipt.Ballots (walk).
-/
import Derived.Test.YtpcilobbohokcaaC4
set_option linter.unusedSimpArgs false
set_option linter.unusedVariables false
namespace Go.Proofs.Ytpcilobbohokcaa
open Go Go.Wk Go.RowKit
attribute [local irreducible] go Hold
open Go.Lib
theorem zeroRow {w : World} {e base size : Nat} (hb : base ≤ w.heap.size) : (w.alloc (.cells #[] e)).ownsRow base e size (.slice (some ⟨w.heap.size, 0, none⟩) 0 0) 0 [] :=
  ⟨by simp, .inr ⟨w.heap.size, 0, #[], rfl, hb, heapNew, Nat.le_refl _, by unfold maxLen; omega, by simp, by simp⟩⟩
set_option maxRecDepth 20000 in
set_option maxHeartbeats 4000000 in
theorem eClone_cps (sm : Value) (l : List Mb) (w : World) (hl : l.length ≤ 1000000) (ha : Rd w 2 sm l.length (l.flatMap mbC)) (R : Ending → World → Prop) (hR : ∀ sv w', sv.oneCell' = true → Mod [] w w' → R (.returned sv) w') : Calls Try.prog 61 #[sm] w R := by
  obtain ⟨a, c, rfl⟩ := ha.slice
  refine calls_go 4000 okT Try.func61 rfl (rs := [.tmp 2]) rfl Try.ntmps61 (args := [.slice a l.length c]) ?_
  cases a with
  | none =>
    simp (maxSteps := 1000000) (disch := first | omega | (simp only [sizeAlloc, sizeDrew, sizeSet, sizePut] <;> omega) | fail) only [GS, TT_eq, TTl, Nat.reduceAdd, Nat.reduceMul, Nat.reduceSub, Nat.reduceDiv, Nat.reduceMod, Nat.reducePow, Nat.reduceEqDiff, ↓reduceIte, reduceCtorEq, Int.reduceToNat, Int.reduceAdd, Int.reduceSub, Int.reduceMul]
    exact hR _ _ rfl (Mod.refl _ _)
  | some ad =>
    simp (maxSteps := 1000000) (disch := first | omega | (simp only [sizeAlloc, sizeDrew, sizeSet, sizePut] <;> omega) | fail) only [GS, TT_eq, TTl, Nat.reduceAdd, Nat.reduceMul, Nat.reduceSub, Nat.reduceDiv, Nat.reduceMod, Nat.reducePow, Nat.reduceEqDiff, ↓reduceIte, reduceCtorEq, Int.reduceToNat, Int.reduceAdd, Int.reduceSub, Int.reduceMul]
    have hz := zeroRow (w := w) (e := 59) (base := w.heap.size) (size := 2) (Nat.le_refl _)
    have hM0 := (Mod.refl [] w).alloc (.cells #[] 59)
    have ha1 := ha.mod hM0 (by simp)
    refine hold_appendR okT rfl rfl rfl rfl (by decide) w.heap.size hz rfl rfl ha1 (by intro u hu; obtain ⟨z, _, hz⟩ := List.mem_flatMap.1 hu; simp only [mbC, List.mem_cons, List.not_mem_nil, or_false] at hz; rcases hz with rfl | rfl <;> rfl) (by simp only; omega) (by unfold maxLen; omega) (by rw [sizeAlloc]; omega) fun sv w2 hown hM2 => hold_ops okT (rs := [.tmp 2]) rfl ?_
    have hsv := ownsRow_one hown
    simp (maxSteps := 1000000) (disch := first | omega | (simp only [sizeAlloc, sizeDrew, sizeSet, sizePut] <;> omega) | fail) only [GS, TT_eq, TTl, Nat.reduceAdd, Nat.reduceMul, Nat.reduceSub, Nat.reduceDiv, Nat.reduceMod, Nat.reducePow, Nat.reduceEqDiff, ↓reduceIte, reduceCtorEq, Int.reduceToNat, Int.reduceAdd, Int.reduceSub, Int.reduceMul, cellsL_one hsv, hsv]
    exact hR sv _ hsv (hM0.trans hM2 (fun y hy => .inr (by simp [Value.ownBlock] at hy; omega)))
/-- A ballot's cells. -/
def blC (r : Rcp) (ms : Value) (o : Int) : List Value := [.int .i64 r.tx.1, .int .i64 r.tx.2.1, .int .i64 r.tx.2.2, .int .i64 r.aud, ms, .int .i64 o]
/-- The ballots of so many members, with whatever slices of members. -/
def blL (r : Rcp) : List Value → List Mb → List Value
  | v :: vs, m :: l => blC r v m.1 ++ blL r vs l
  | _, _ => []
theorem blL_snoc (r : Rcp) : ∀ (vs : List Value) (l : List Mb) (v : Value) (m : Mb), vs.length = l.length → blL r (vs ++ [v]) (l ++ [m]) = blL r vs l ++ blC r v m.1
  | [], [], v, m, _ => by simp [blL]
  | x :: vs, y :: l, v, m, h => by
    simp only [List.length_cons, Nat.add_right_cancel_iff] at h
    simp only [List.cons_append, blL, blL_snoc r vs l v m h, List.append_assoc]
  | [], _ :: _, _, _, h => by simp at h
  | _ :: _, [], _, _, h => by simp at h
theorem blL_len (r : Rcp) : ∀ (vs : List Value) (l : List Mb), vs.length = l.length → (blL r vs l).length = l.length * 6
  | [], [], _ => rfl
  | x :: vs, y :: l, h => by
    simp only [List.length_cons, Nat.add_right_cancel_iff] at h
    simp only [blL, List.length_append, blL_len r vs l h, List.length_cons]
    simp [blC]
    omega
  | [], _ :: _, h => by simp at h
  | _ :: _, [], h => by simp at h
theorem blL_at (r : Rcp) : ∀ (vs : List Value) (l : List Mb) (k : Nat) (hk : k < l.length), vs.length = l.length → ∃ v, ∀ j, j < 6 → (blL r vs l)[k * 6 + j]? = (blC r v l[k].1)[j]?
  | [], [], k, hk, _ => by simp at hk
  | x :: vs, y :: l, 0, hk, h => by
    refine ⟨x, fun j hj => ?_⟩
    have : j < (blC r x y.1).length := by simp [blC]; omega
    simp only [blL, Nat.zero_mul, Nat.zero_add, List.getElem_cons_zero]
    rw [List.getElem?_append_left this]
  | x :: vs, y :: l, k + 1, hk, h => by
    simp only [List.length_cons, Nat.add_right_cancel_iff] at h hk
    obtain ⟨v, hv⟩ := blL_at r vs l k (by omega) h
    refine ⟨v, fun j hj => ?_⟩
    have e : (k + 1) * 6 + j = (blC r x y.1).length + (k * 6 + j) := by simp [blC]; omega
    simp only [blL, List.getElem_cons_succ]
    rw [e, List.getElem?_append_right (by omega), Nat.add_sub_cancel_left]
    exact hv j hj
  | [], _ :: _, _, _, h => by simp at h
  | _ :: _, [], _, _, h => by simp at h
set_option maxRecDepth 20000 in
set_option maxHeartbeats 16000000 in
theorem eBallots_cps (r : Rcp) (sm st : Value) (w : World) (hr : RcpIn w r sm st) (R : Ending → World → Prop)
    (hR : ∀ sv vs w', mayR r = true → vs.length = r.mbs.length → w'.ownsRow w.heap.size 57 6 sv r.mbs.length (blL r vs r.mbs) → Mod [] w w' → R (.returned sv) w') (hN : mayR r = false → ∀ w', Mod [] w w' → R (.returned (.slice none 0 0)) w') :
    Calls Try.prog 23 #[rcV r sm st] w R := by
  have hCk := eCheck_cps r sm st
  have hCl := eClone_cps sm r.mbs
  have hmr := hr.mrd
  have hml := hr.mlen
  have hrW : ∀ w', Mod [] w w' → RcpIn w' r sm st := fun w' hM => hr.mod hM
  have osm : sm.oneCell' = true := by obtain ⟨a, c, e⟩ := hr.mrd.slice; rw [e]; rfl
  have ost : st.oneCell' = true := by obtain ⟨a, c, e⟩ := hr.trd.slice; rw [e]; rfl
  have hmy : ∀ b, mayR r = b → mayR r = b := fun _ h => h
  generalize hM : mayR r = M at hCk hR hN
  clear hr hmy hM
  have hblS := blL_snoc r
  have hbl0 : blL r [] [] = [] := rfl
  have hblc : ∀ v o, blC r v o = [.int .i64 r.tx.1, .int .i64 r.tx.2.1, .int .i64 r.tx.2.2, .int .i64 r.aud, v, .int .i64 o] := fun _ _ => rfl
  generalize blL r = BL at hR hblS hbl0
  generalize blC r = BC at hblS hblc
  unfold rcV rcC at hCk ⊢
  obtain ⟨⟨xa, xb, xc⟩, xd, mbs, tags⟩ := r
  simp only at hCk hCl hmr hml hR hblc ⊢
  obtain ⟨pm, cm, rfl⟩ := hmr.slice
  refine calls_go 4000 okT Try.func23 rfl (rs := [.tmp 2]) rfl Try.ntmps23 (args := [.agg #[.int .i64 xa, .int .i64 xb, .int .i64 xc, .int .i64 xd, .slice pm mbs.length cm, st]]) ?_
  simp (maxSteps := 1000000) (disch := first | omega | (simp only [sizeAlloc, sizeDrew, sizeSet, sizePut] <;> omega) | fail) only [GS, TT_eq, TTl, Nat.reduceAdd, Nat.reduceMul, Nat.reduceSub, Nat.reduceDiv, Nat.reduceMod, Nat.reducePow, Nat.reduceEqDiff, ↓reduceIte, reduceCtorEq, Int.reduceToNat, Int.reduceAdd, Int.reduceSub, Int.reduceMul, ost, cellsL_one ost]
  have hM0 := (Mod.refl [] w).alloc (.cells #[.int .i64 xa, .int .i64 xb, .int .i64 xc, .int .i64 xd, .slice pm mbs.length cm, st] 27)
  have hA := heapNew (w := w) (o := .cells #[.int .i64 xa, .int .i64 xb, .int .i64 xc, .int .i64 xd, .slice pm mbs.length cm, st] 27)
  generalize w.alloc (.cells #[.int .i64 xa, .int .i64 xb, .int .i64 xc, .int .i64 xd, .slice pm mbs.length cm, st] 27) = w1 at hM0 hA ⊢
  generalize hn : w.heap.size = n at *
  refine ⟨fok11, hCk _ (hrW _ hM0) _ fun w2 hM2 => .inl ⟨_, rfl, hold_ops okT (rs := [.tmp 2]) rfl ?_⟩⟩
  have hA2 := hM2.get hA (by simp)
  have hM02 := hM0.trans hM2 (by simp)
  have c2 := fun o => cellOf (o := o) hA2
  cases M
  · simp only [Bool.false_eq_true, if_false]
    simp (maxSteps := 1000000) (disch := first | omega | (simp only [sizeAlloc, sizeDrew, sizeSet, sizePut] <;> omega) | fail) only [GS, TT_eq, TTl, Nat.reduceAdd, Nat.reduceMul, Nat.reduceSub, Nat.reduceDiv, Nat.reduceMod, Nat.reducePow, Nat.reduceEqDiff, ↓reduceIte, reduceCtorEq, Int.reduceToNat, Int.reduceAdd, Int.reduceSub, Int.reduceMul]
    exact hN rfl _ hM02
  simp only [if_true]
  have hs0 := hM02.size
  simp (maxSteps := 1000000) (disch := first | omega | (simp only [sizeAlloc, sizeDrew, sizeSet, sizePut] <;> omega) | fail) only [GS, TT_eq, TTl, Nat.reduceAdd, Nat.reduceMul, Nat.reduceSub, Nat.reduceDiv, Nat.reduceMod, Nat.reducePow, Nat.reduceEqDiff, ↓reduceIte, reduceCtorEq, Int.reduceToNat, Int.reduceAdd, Int.reduceSub, Int.reduceMul, c2]
  refine hold_loop okT (rs := [.tmp 2]) rfl [2, 10] [3, 11, 12, 13, 14, 15, 16, 17, 18, 19, 20, 21, 22, 23, 24, 25, 26, 27, 28, 29, 30] (fun vs w' => ∃ (k : Nat) (sv : Value) (us : List Value), vs = [sv, .int .i64 k] ∧ k ≤ mbs.length ∧ us.length = k ∧ w'.ownsRow w2.heap.size 57 6 sv k (BL us (mbs.take k)) ∧ Mod [] w2 w') (fun vs _ => match vs with | [_, .int _ i] => mbs.length - i.toNat | _ => 0) (by kernel_rfl) ⟨0, .slice none 0 0, [], rfl, by omega, rfl, by rw [List.take_zero, hbl0]; exact World.ownsRow_nil _ _ _ _, Mod.refl _ _⟩ ?_
  rintro vs w3 J ⟨k, sv, us, rfl, hk, hus, hown, hM3⟩
  have hM03 := hM02.trans hM3 (by simp)
  have hA3 := hM3.get hA2 (by simp)
  have hcl := ownsRow_one hown
  obtain ⟨va, vc, rfl⟩ := (Rd.own hown).slice
  by_cases hlt : k < mbs.length
  · have hrd := hmr.mod hM03 (by simp)
    obtain ⟨b1, o1, c1, e1, _, g1⟩ := hrd.at (by omega) (by omega)
    have hfl := fun j hj => flat_get mbC 2 mbC_len mbs k hlt j hj
    have htk := List.take_succ_eq_append_getElem hlt
    generalize mbs[k] = m at hfl htk
    obtain ⟨mo, md⟩ := m
    rw [Value.slice.injEq] at e1
    obtain ⟨rfl, -, -⟩ := e1
    have d0 : w3.cell? ⟨b1, o1 + k * 2, none⟩ = some (.int .i64 mo) := by rw [← g1 (k * 2) _ (hfl 0 (by omega))]
    have c3 := fun o => cellOf (o := o) hA3
    simp (maxSteps := 1000000) (disch := first | omega | (simp only [sizeAlloc, sizeDrew, sizeSet, sizePut] <;> omega) | fail) only [GS, TT_eq, TTl, Nat.reduceAdd, Nat.reduceMul, Nat.reduceSub, Nat.reduceDiv, Nat.reduceMod, Nat.reducePow, Nat.reduceEqDiff, ↓reduceIte, reduceCtorEq, Int.reduceToNat, Int.reduceAdd, Int.reduceSub, Int.reduceMul, c3, d0]
    refine hold_draw okT (rs := [.tmp 2]) rfl [0, 0, 2, 0, 8, 0, 32, 96, 0, 256, 0, 1792, 3840, 7936, 16382, 32766, 65535, 131071] [0, 1, 2, 3, 4, 5, 6, 8, 9, 10, 11, 12, 13, 7, 14, 15, 16, 17] (by kernel_rfl) (by kernel_rfl) ?_
    have hA4 : (w3.drewN 1).heap[n]? = _ := hA3
    have d4 : (w3.drewN 1).cell? ⟨b1, o1 + k * 2, none⟩ = some (.int .i64 mo) := d0
    have hM34 := (Mod.refl [] w3).drewN 1
    have hown4 := ownsRow_mod hown hM34 (by simp)
    generalize w3.drewN 1 = w4 at *
    have c4 := fun o => cellOf (o := o) hA4
    have e3 : w4.cell? ⟨n, 3, none⟩ = some (.int .i64 xd) := c4 3
    have e4 : w4.cell? ⟨n, 4, none⟩ = some (.slice (some ⟨b1, o1, none⟩) mbs.length cm) := c4 4
    have hag : ∀ w' : World, Mod [] w4 w' → aggO (consO (w'.cell? ⟨n, 0, none⟩) (consO (w'.cell? ⟨n, 1, none⟩) (consO (w'.cell? ⟨n, 2, none⟩) (some [])))) = some (.agg #[.int .i64 xa, .int .i64 xb, .int .i64 xc]) := by
      intro w' hm
      rw [cellM (show w4.cell? ⟨n, 0, none⟩ = some (.int .i64 xa) from c4 0) hm, cellM (show w4.cell? ⟨n, 1, none⟩ = some (.int .i64 xb) from c4 1) hm, cellM (show w4.cell? ⟨n, 2, none⟩ = some (.int .i64 xc) from c4 2) hm]
      rfl
    simp (maxSteps := 1000000) (disch := first | omega | (simp only [sizeAlloc, sizeDrew, sizeSet, sizePut] <;> omega) | fail) only [GS, TT_eq, TTl, Nat.reduceAdd, Nat.reduceMul, Nat.reduceSub, Nat.reduceDiv, Nat.reduceMod, Nat.reducePow, Nat.reduceEqDiff, ↓reduceIte, reduceCtorEq, Int.reduceToNat, Int.reduceAdd, Int.reduceSub, Int.reduceMul, c4, d4]
    refine ⟨fok61, hCl _ hml (hmr.mod (hM03.trans hM34 (by simp)) (by simp)) _ fun v w5 hv hM5 => .inl ⟨_, rfl, ?_⟩⟩
    refine ⟨(by repeat' (first | exact hag _ hM5 | exact cellM d4 hM5 | exact cellM e3 hM5 | exact cellM e4 hM5 | apply And.intro)), hold_dops okT (rs := [.tmp 2]) rfl ?_⟩
    have hown5 := ownsRow_mod hown4 hM5 (by simp)
    have hM35 := hM34.trans hM5 (by simp)
    have hM25 := hM3.trans hM35 (by simp)
    simp (maxSteps := 1000000) (disch := first | omega | (simp only [sizeAlloc, sizeDrew, sizeSet, sizePut] <;> omega) | fail) only [GS, TT_eq, TTl, Nat.reduceAdd, Nat.reduceMul, Nat.reduceSub, Nat.reduceDiv, Nat.reduceMod, Nat.reducePow, Nat.reduceEqDiff, ↓reduceIte, reduceCtorEq, Int.reduceToNat, Int.reduceAdd, Int.reduceSub, Int.reduceMul, hv, cellsL_one hv]
    refine hold_dappendN okT rfl rfl rfl rfl (by decide) w2.heap.size hown5 rfl rfl (news := [.int .i64 xa, .int .i64 xb, .int .i64 xc, .int .i64 xd, v, .int .i64 mo]) rfl (by decide) (by intro u hu; simp only [List.mem_cons, List.not_mem_nil, or_false] at hu; rcases hu with rfl | rfl | rfl | rfl | rfl | rfl <;> first | rfl | exact hv) (by simp only; omega) (by unfold maxLen; omega) hM25.size fun v' w7 hown7 hM7 _ => ⟨?_, hold_dops okT (rs := [.tmp 2]) rfl ?_⟩
    · simp (maxSteps := 1000000) only [GS, TT_eq, TTl, Nat.reduceAdd, Nat.reduceMul, Nat.reduceSub, Nat.reduceDiv, Nat.reduceMod, Nat.reducePow, Nat.reduceEqDiff, ↓reduceIte, reduceCtorEq, Int.reduceToNat, Int.reduceAdd, Int.reduceSub, Int.reduceMul]
    have hob : ∀ y ∈ (Value.slice va k vc).ownBlock.toList, w2.heap.size ≤ y := fun y hy => (hown5.lt y (by simpa using hy)).1
    have hM27 := hM25.trans hM7 (fun y hy => .inr (hob y hy))
    simp (maxSteps := 1000000) (disch := first | omega | (simp only [sizeAlloc, sizeDrew, sizeSet, sizePut] <;> omega) | fail) only [GS, TT_eq, TTl, Nat.reduceAdd, Nat.reduceMul, Nat.reduceSub, Nat.reduceDiv, Nat.reduceMod, Nat.reducePow, Nat.reduceEqDiff, ↓reduceIte, reduceCtorEq, Int.reduceToNat, Int.reduceAdd, Int.reduceSub, Int.reduceMul]
    refine ⟨⟨k + 1, _, us ++ [v], rfl, by omega, by rw [List.length_append]; simp; omega, ?_, hM27⟩, by omega⟩
    rw [htk, hblS us (mbs.take k) v (mo, md) (by rw [hus, List.length_take]; omega), hblc]
    exact hown7
  · have e : k = mbs.length := by omega
    subst e
    rw [List.take_length] at hown
    simp (maxSteps := 1000000) (disch := first | omega | (simp only [sizeAlloc, sizeDrew, sizeSet, sizePut] <;> omega) | fail) only [GS, TT_eq, TTl, Nat.reduceAdd, Nat.reduceMul, Nat.reduceSub, Nat.reduceDiv, Nat.reduceMod, Nat.reducePow, Nat.reduceEqDiff, ↓reduceIte, reduceCtorEq, Int.reduceToNat, Int.reduceAdd, Int.reduceSub, Int.reduceMul]
    exact hR _ us _ rfl hus (ownsRow_base hown (by omega)) hM03
end Go.Proofs.Ytpcilobbohokcaa
