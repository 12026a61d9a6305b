/-
  Ballots, with what their members are; the reference's Ballots, Names and Same of ballots (walks).
-/
import Derived.Test.YtpcilobbohokcaaGreatRtlRcq1
import Derived.Test.YtpcilobbohokcaaGreatRtlRcpF
set_option linter.unusedSimpArgs false
set_option linter.unusedVariables false
set_option maxRecDepth 20000
namespace Go.Proofs.YtpcilobbohokcaaGreat
open Go Go.Wk Go.RowKit
attribute [local irreducible] go Hold
open Go.Lib
theorem own_sep {w : World} {b1 e1 s1 n1 b2 e2 s2 n2 : Nat} {v1 v2 : Value} {x1 x2 : List Value} (h1 : w.ownsRow b1 e1 s1 v1 n1 x1) (h2 : w.ownsRow b2 e2 s2 v2 n2 x2) (hne : e2 ≠ e1) : ∀ g, v1.ownBlock = some g → g ∉ v2.ownBlock.toList := by
  rcases h2.2 with ⟨rfl, _⟩ | ⟨g2, cap, cur, rfl, hb, hg, _⟩
  · simp [Value.ownBlock]
  · intro g hg1 hm
    simp [Value.ownBlock] at hm
    exact own_ne h1 hg hne g hg1 hm
theorem blL_in (r : Rcp) : ∀ (vs : List Value) (l : List Mb) (k : Nat) (hk : k < l.length), vs.length = l.length → ∃ v ∈ vs, ∀ j, j < 6 → (blL r vs l)[k * 6 + j]? = (blC r v l[k].1)[j]?
  | [], [], k, hk, _ => by simp at hk
  | x :: vs, y :: l, 0, hk, h => by
    refine ⟨x, by simp, fun j hj => ?_⟩
    have : j < (blC r x y.1).length := by simp [blC]; omega
    simp only [blL, Nat.zero_mul, Nat.zero_add, List.getElem_cons_zero]
    rw [List.getElem?_append_left this]
  | x :: vs, y :: l, k + 1, hk, h => by
    simp only [List.length_cons, Nat.add_right_cancel_iff] at h hk
    obtain ⟨v, hm, hv⟩ := blL_in r vs l k (by omega) h
    refine ⟨v, by simp [hm], fun j hj => ?_⟩
    have e : (k + 1) * 6 + j = (blC r x y.1).length + (k * 6 + j) := by simp [blC]; omega
    simp only [blL, List.getElem_cons_succ]
    rw [e, List.getElem?_append_right (by omega), Nat.add_sub_cancel_left]
    exact hv j hj
  | [], _ :: _, _, _, h => by simp at h
  | _ :: _, [], _, _, h => by simp at h
set_option maxRecDepth 20000 in
set_option maxHeartbeats 4000000 in
theorem eClone2_cps (sm : Value) (l : List Mb) (w : World) (hl : l.length ≤ 1000000) (ha : Rd w 2 sm l.length (l.flatMap mbC)) (R : Ending → World → Prop) (hR : ∀ sv w', w'.ownsRow w.heap.size 126 2 sv l.length (l.flatMap mbC) → Mod [] w w' → R (.returned sv) w') : Calls Tryz.prog 109 #[sm] w R := by
  obtain ⟨a, c, rfl⟩ := ha.slice
  refine calls_go 4000 okT Tryz.func109 rfl (rs := [.tmp 2]) rfl Tryz.ntmps109 (args := [.slice a l.length c]) ?_
  cases a with
  | none =>
    simp (maxSteps := 1000000) (disch := first | omega | (simp only [sizeAlloc, sizeDrew, sizeSet, sizePut] <;> omega) | fail) only [GS, TT_eq, TTl, Nat.reduceAdd, Nat.reduceMul, Nat.reduceSub, Nat.reduceDiv, Nat.reduceMod, Nat.reducePow, Nat.reduceEqDiff, ↓reduceIte, reduceCtorEq, Int.reduceToNat, Int.reduceAdd, Int.reduceSub, Int.reduceMul]
    have h0 : l.length = 0 := by
      apply Classical.byContradiction
      intro h
      obtain ⟨b, o, cap, e, _⟩ := ha.at (by omega) (by omega)
      simp at e
    rw [List.length_eq_zero_iff.1 h0] at hR
    exact hR _ _ (World.ownsRow_nil _ _ _ _) (Mod.refl _ _)
  | some ad =>
    simp (maxSteps := 1000000) (disch := first | omega | (simp only [sizeAlloc, sizeDrew, sizeSet, sizePut] <;> omega) | fail) only [GS, TT_eq, TTl, Nat.reduceAdd, Nat.reduceMul, Nat.reduceSub, Nat.reduceDiv, Nat.reduceMod, Nat.reducePow, Nat.reduceEqDiff, ↓reduceIte, reduceCtorEq, Int.reduceToNat, Int.reduceAdd, Int.reduceSub, Int.reduceMul]
    have hz := zeroRow (w := w) (e := 126) (base := w.heap.size) (size := 2) (Nat.le_refl _)
    have hM0 := (Mod.refl [] w).alloc (.cells #[] 126)
    have ha1 := ha.mod hM0 (by simp)
    refine hold_appendR okT rfl rfl rfl rfl (by decide) w.heap.size hz rfl rfl ha1 (by intro u hu; obtain ⟨z, _, hz⟩ := List.mem_flatMap.1 hu; simp only [mbC, List.mem_cons, List.not_mem_nil, or_false] at hz; rcases hz with rfl | rfl <;> rfl) (by simp only; omega) (by unfold maxLen; omega) (by rw [sizeAlloc]; omega) fun sv w2 hown hM2 => hold_ops okT (rs := [.tmp 2]) rfl ?_
    have hsv := ownsRow_one hown
    simp (maxSteps := 1000000) (disch := first | omega | (simp only [sizeAlloc, sizeDrew, sizeSet, sizePut] <;> omega) | fail) only [GS, TT_eq, TTl, Nat.reduceAdd, Nat.reduceMul, Nat.reduceSub, Nat.reduceDiv, Nat.reduceMod, Nat.reducePow, Nat.reduceEqDiff, ↓reduceIte, reduceCtorEq, Int.reduceToNat, Int.reduceAdd, Int.reduceSub, Int.reduceMul, cellsL_one hsv, hsv]
    rw [Nat.zero_add, List.nil_append] at hown
    exact hR sv _ hown (hM0.trans hM2 (fun y hy => .inr (by simp [Value.ownBlock] at hy; omega)))
set_option maxRecDepth 20000 in
set_option maxHeartbeats 16000000 in
theorem eBallots2_cps (r : Rcp) (sm st : Value) (w : World) (hr : RcpIn w r sm st) (R : Ending → World → Prop)
    (hR : ∀ sv vs w', mayR r = true → vs.length = r.mbs.length → (∀ v ∈ vs, w'.ownsRow w.heap.size 126 2 v r.mbs.length (r.mbs.flatMap mbC)) → w'.ownsRow w.heap.size 56 6 sv r.mbs.length (blL r vs r.mbs) → Mod [] w w' → R (.returned sv) w') (hN : mayR r = false → ∀ w', Mod [] w w' → R (.returned (.slice none 0 0)) w') :
    Calls Tryz.prog 34 #[rcV r sm st] w R := by
  have hCk := eCheck_cps r sm st
  have hCl := eClone2_cps sm r.mbs
  have hmr := hr.mrd
  have hml := hr.mlen
  have hrW : ∀ w', Mod [] w w' → RcpIn w' r sm st := fun w' hM => hr.mod hM
  have osm : sm.oneCell' = true := by obtain ⟨a, c, e⟩ := hr.mrd.slice; rw [e]; rfl
  have ost : st.oneCell' = true := by obtain ⟨a, c, e⟩ := hr.trd.slice; rw [e]; rfl
  have hmy : ∀ b, mayR r = b → mayR r = b := fun _ h => h
  generalize hM : mayR r = M at hCk hR hN
  clear hr hmy hM
  have hblS := blL_snoc r
  have hbl0 : blL r [] [] = [] := rfl
  have hblc : ∀ v o, blC r v o = [.int .i64 r.tx.1, .int .i64 r.tx.2.1, .int .i64 r.tx.2.2, .int .i64 r.aud, v, .int .i64 o] := fun _ _ => rfl
  generalize blL r = BL at hR hblS hbl0
  generalize blC r = BC at hblS hblc
  unfold rcV rcC at hCk ⊢
  obtain ⟨⟨xa, xb, xc⟩, xd, mbs, tags⟩ := r
  simp only at hCk hCl hmr hml hR hblc ⊢
  obtain ⟨pm, cm, rfl⟩ := hmr.slice
  refine calls_go 4000 okT Tryz.func34 rfl (rs := [.tmp 2]) rfl Tryz.ntmps34 (args := [.agg #[.int .i64 xa, .int .i64 xb, .int .i64 xc, .int .i64 xd, .slice pm mbs.length cm, st]]) ?_
  simp (maxSteps := 1000000) (disch := first | omega | (simp only [sizeAlloc, sizeDrew, sizeSet, sizePut] <;> omega) | fail) only [GS, TT_eq, TTl, Nat.reduceAdd, Nat.reduceMul, Nat.reduceSub, Nat.reduceDiv, Nat.reduceMod, Nat.reducePow, Nat.reduceEqDiff, ↓reduceIte, reduceCtorEq, Int.reduceToNat, Int.reduceAdd, Int.reduceSub, Int.reduceMul, ost, cellsL_one ost]
  have hM0 := (Mod.refl [] w).alloc (.cells #[.int .i64 xa, .int .i64 xb, .int .i64 xc, .int .i64 xd, .slice pm mbs.length cm, st] 28)
  have hA := heapNew (w := w) (o := .cells #[.int .i64 xa, .int .i64 xb, .int .i64 xc, .int .i64 xd, .slice pm mbs.length cm, st] 28)
  generalize w.alloc (.cells #[.int .i64 xa, .int .i64 xb, .int .i64 xc, .int .i64 xd, .slice pm mbs.length cm, st] 28) = w1 at hM0 hA ⊢
  generalize hn : w.heap.size = n at *
  refine ⟨fok30, hCk _ (hrW _ hM0) _ fun w2 hM2 => .inl ⟨_, rfl, hold_ops okT (rs := [.tmp 2]) rfl ?_⟩⟩
  have hA2 := hM2.get hA (by simp)
  have hM02 := hM0.trans hM2 (by simp)
  have c2 := fun o => cellOf (o := o) hA2
  cases M
  · simp only [Bool.false_eq_true, if_false]
    simp (maxSteps := 1000000) (disch := first | omega | (simp only [sizeAlloc, sizeDrew, sizeSet, sizePut] <;> omega) | fail) only [GS, TT_eq, TTl, Nat.reduceAdd, Nat.reduceMul, Nat.reduceSub, Nat.reduceDiv, Nat.reduceMod, Nat.reducePow, Nat.reduceEqDiff, ↓reduceIte, reduceCtorEq, Int.reduceToNat, Int.reduceAdd, Int.reduceSub, Int.reduceMul]
    exact hN rfl _ hM02
  simp only [if_true]
  have hs0 := hM02.size
  simp (maxSteps := 1000000) (disch := first | omega | (simp only [sizeAlloc, sizeDrew, sizeSet, sizePut] <;> omega) | fail) only [GS, TT_eq, TTl, Nat.reduceAdd, Nat.reduceMul, Nat.reduceSub, Nat.reduceDiv, Nat.reduceMod, Nat.reducePow, Nat.reduceEqDiff, ↓reduceIte, reduceCtorEq, Int.reduceToNat, Int.reduceAdd, Int.reduceSub, Int.reduceMul, c2]
  refine hold_loop okT (rs := [.tmp 2]) rfl [2, 10] [3, 11, 12, 13, 14, 15, 16, 17, 18, 19, 20, 21, 22, 23, 24, 25, 26, 27, 28, 29, 30] (fun vs w' => ∃ (k : Nat) (sv : Value) (us : List Value), vs = [sv, .int .i64 k] ∧ k ≤ mbs.length ∧ us.length = k ∧ (∀ v ∈ us, w'.ownsRow w2.heap.size 126 2 v mbs.length (mbs.flatMap mbC)) ∧ w'.ownsRow w2.heap.size 56 6 sv k (BL us (mbs.take k)) ∧ Mod [] w2 w') (fun vs _ => match vs with | [_, .int _ i] => mbs.length - i.toNat | _ => 0) (by kernel_rfl) ⟨0, .slice none 0 0, [], rfl, by omega, rfl, by simp, by rw [List.take_zero, hbl0]; exact World.ownsRow_nil _ _ _ _, Mod.refl _ _⟩ ?_
  rintro vs w3 J ⟨k, sv, us, rfl, hk, hus, hou, hown, hM3⟩
  have hM03 := hM02.trans hM3 (by simp)
  have hA3 := hM3.get hA2 (by simp)
  have hcl := ownsRow_one hown
  obtain ⟨va, vc, rfl⟩ := (Rd.own hown).slice
  by_cases hlt : k < mbs.length
  · have hrd := hmr.mod hM03 (by simp)
    obtain ⟨b1, o1, c1, e1, _, g1⟩ := hrd.at (by omega) (by omega)
    have hfl := fun j hj => flat_get mbC 2 mbC_len mbs k hlt j hj
    have htk := List.take_succ_eq_append_getElem hlt
    generalize mbs[k] = m at hfl htk
    obtain ⟨mo, md⟩ := m
    rw [Value.slice.injEq] at e1
    obtain ⟨rfl, -, -⟩ := e1
    have d0 : w3.cell? ⟨b1, o1 + k * 2, none⟩ = some (.int .i64 mo) := by rw [← g1 (k * 2) _ (hfl 0 (by omega))]
    have c3 := fun o => cellOf (o := o) hA3
    simp (maxSteps := 1000000) (disch := first | omega | (simp only [sizeAlloc, sizeDrew, sizeSet, sizePut] <;> omega) | fail) only [GS, TT_eq, TTl, Nat.reduceAdd, Nat.reduceMul, Nat.reduceSub, Nat.reduceDiv, Nat.reduceMod, Nat.reducePow, Nat.reduceEqDiff, ↓reduceIte, reduceCtorEq, Int.reduceToNat, Int.reduceAdd, Int.reduceSub, Int.reduceMul, c3, d0]
    refine hold_draw okT (rs := [.tmp 2]) rfl [0, 0, 2, 0, 8, 0, 32, 96, 0, 256, 0, 1792, 3840, 7936, 16382, 32766, 65535, 131071] [0, 1, 2, 3, 4, 5, 6, 8, 9, 10, 11, 12, 13, 7, 14, 15, 16, 17] (by kernel_rfl) (by kernel_rfl) ?_
    have hA4 : (w3.drewN 1).heap[n]? = _ := hA3
    have d4 : (w3.drewN 1).cell? ⟨b1, o1 + k * 2, none⟩ = some (.int .i64 mo) := d0
    have hM34 := (Mod.refl [] w3).drewN 1
    have hown4 := ownsRow_mod hown hM34 (by simp)
    generalize w3.drewN 1 = w4 at *
    have c4 := fun o => cellOf (o := o) hA4
    have e3 : w4.cell? ⟨n, 3, none⟩ = some (.int .i64 xd) := c4 3
    have e4 : w4.cell? ⟨n, 4, none⟩ = some (.slice (some ⟨b1, o1, none⟩) mbs.length cm) := c4 4
    have hag : ∀ w' : World, Mod [] w4 w' → aggO (consO (w'.cell? ⟨n, 0, none⟩) (consO (w'.cell? ⟨n, 1, none⟩) (consO (w'.cell? ⟨n, 2, none⟩) (some [])))) = some (.agg #[.int .i64 xa, .int .i64 xb, .int .i64 xc]) := by
      intro w' hm
      rw [cellM (show w4.cell? ⟨n, 0, none⟩ = some (.int .i64 xa) from c4 0) hm, cellM (show w4.cell? ⟨n, 1, none⟩ = some (.int .i64 xb) from c4 1) hm, cellM (show w4.cell? ⟨n, 2, none⟩ = some (.int .i64 xc) from c4 2) hm]
      rfl
    simp (maxSteps := 1000000) (disch := first | omega | (simp only [sizeAlloc, sizeDrew, sizeSet, sizePut] <;> omega) | fail) only [GS, TT_eq, TTl, Nat.reduceAdd, Nat.reduceMul, Nat.reduceSub, Nat.reduceDiv, Nat.reduceMod, Nat.reducePow, Nat.reduceEqDiff, ↓reduceIte, reduceCtorEq, Int.reduceToNat, Int.reduceAdd, Int.reduceSub, Int.reduceMul, c4, d4]
    refine ⟨fok109, hCl _ hml (hmr.mod (hM03.trans hM34 (by simp)) (by simp)) _ fun v w5 hvo hM5 => .inl ⟨_, rfl, ?_⟩⟩
    refine ⟨(by repeat' (first | exact hag _ hM5 | exact cellM d4 hM5 | exact cellM e3 hM5 | exact cellM e4 hM5 | apply And.intro)), hold_dops okT (rs := [.tmp 2]) rfl ?_⟩
    have hown5 := ownsRow_mod hown4 hM5 (by simp)
    have hM35 := hM34.trans hM5 (by simp)
    have hM25 := hM3.trans hM35 (by simp)
    have hv := ownsRow_one hvo
    have hvo5 := ownsRow_base hvo (hM3.trans hM34 (by simp)).size
    have hou5 := fun u hu => ownsRow_mod (hou u hu) hM35 (by simp)
    simp (maxSteps := 1000000) (disch := first | omega | (simp only [sizeAlloc, sizeDrew, sizeSet, sizePut] <;> omega) | fail) only [GS, TT_eq, TTl, Nat.reduceAdd, Nat.reduceMul, Nat.reduceSub, Nat.reduceDiv, Nat.reduceMod, Nat.reducePow, Nat.reduceEqDiff, ↓reduceIte, reduceCtorEq, Int.reduceToNat, Int.reduceAdd, Int.reduceSub, Int.reduceMul, hv, cellsL_one hv]
    refine hold_dappendN okT rfl rfl rfl rfl (by decide) w2.heap.size hown5 rfl rfl (news := [.int .i64 xa, .int .i64 xb, .int .i64 xc, .int .i64 xd, v, .int .i64 mo]) rfl (by decide) (by intro u hu; simp only [List.mem_cons, List.not_mem_nil, or_false] at hu; rcases hu with rfl | rfl | rfl | rfl | rfl | rfl <;> first | rfl | exact hv) (by simp only; omega) (by unfold maxLen; omega) hM25.size fun v' w7 hown7 hM7 _ => ⟨?_, hold_dops okT (rs := [.tmp 2]) rfl ?_⟩
    · simp (maxSteps := 1000000) only [GS, TT_eq, TTl, Nat.reduceAdd, Nat.reduceMul, Nat.reduceSub, Nat.reduceDiv, Nat.reduceMod, Nat.reducePow, Nat.reduceEqDiff, ↓reduceIte, reduceCtorEq, Int.reduceToNat, Int.reduceAdd, Int.reduceSub, Int.reduceMul]
    have hob : ∀ y ∈ (Value.slice va k vc).ownBlock.toList, w2.heap.size ≤ y := fun y hy => (hown5.lt y (by simpa using hy)).1
    have hM27 := hM25.trans hM7 (fun y hy => .inr (hob y hy))
    simp (maxSteps := 1000000) (disch := first | omega | (simp only [sizeAlloc, sizeDrew, sizeSet, sizePut] <;> omega) | fail) only [GS, TT_eq, TTl, Nat.reduceAdd, Nat.reduceMul, Nat.reduceSub, Nat.reduceDiv, Nat.reduceMod, Nat.reducePow, Nat.reduceEqDiff, ↓reduceIte, reduceCtorEq, Int.reduceToNat, Int.reduceAdd, Int.reduceSub, Int.reduceMul]
    refine ⟨⟨k + 1, _, us ++ [v], rfl, by omega, by rw [List.length_append]; simp; omega, ?_, ?_, hM27⟩, by omega⟩
    · intro u hu
      rcases List.mem_append.1 hu with hu | hu
      · exact ownsRow_mod' (hou5 u hu) hM7 (own_sep (hou5 u hu) hown5 (by decide))
      · rw [List.mem_singleton.1 hu]
        exact ownsRow_mod' hvo5 hM7 (own_sep hvo5 hown5 (by decide))
    rw [htk, hblS us (mbs.take k) v (mo, md) (by rw [hus, List.length_take]; omega), hblc]
    exact hown7
  · have e : k = mbs.length := by omega
    subst e
    rw [List.take_length] at hown
    simp (maxSteps := 1000000) (disch := first | omega | (simp only [sizeAlloc, sizeDrew, sizeSet, sizePut] <;> omega) | fail) only [GS, TT_eq, TTl, Nat.reduceAdd, Nat.reduceMul, Nat.reduceSub, Nat.reduceDiv, Nat.reduceMod, Nat.reducePow, Nat.reduceEqDiff, ↓reduceIte, reduceCtorEq, Int.reduceToNat, Int.reduceAdd, Int.reduceSub, Int.reduceMul]
    exact hR _ us _ rfl hus (fun v hv => ownsRow_base (hou v hv) (by omega)) (ownsRow_base hown (by omega)) hM03
set_option maxRecDepth 20000 in
set_option maxHeartbeats 16000000 in
theorem rBallots26_cps (r : Rcp) (sm st : Value) (w : World) (hr : RcpIn w r sm st) (R : Ending → World → Prop)
    (hR : ∀ sv w', mayR r = true → w'.ownsRow w.heap.size 56 6 sv r.mbs.length (blL r (List.replicate r.mbs.length sm) r.mbs) → Mod [] w w' → R (.returned sv) w') (hN : mayR r = false → ∀ w', Mod [] w w' → R (.returned (.slice none 0 0)) w') :
    Calls Tryz.prog 35 #[rcV r sm st] w R := by
  have hCk := rMay26_cps r sm st
  have hmr := hr.mrd
  have hml := hr.mlen
  have hrW : ∀ w', Mod [] w w' → RcpIn w' r sm st := fun w' hM => hr.mod hM
  have osm : sm.oneCell' = true := by obtain ⟨a, c, e⟩ := hr.mrd.slice; rw [e]; rfl
  have ost : st.oneCell' = true := by obtain ⟨a, c, e⟩ := hr.trd.slice; rw [e]; rfl
  have hmy : ∀ b, mayR r = b → mayR r = b := fun _ h => h
  generalize hM : mayR r = M at hCk hR hN
  clear hr hmy hM
  have hblS := blL_snoc r
  have hbl0 : blL r [] [] = [] := rfl
  have hblc : ∀ v o, blC r v o = [.int .i64 r.tx.1, .int .i64 r.tx.2.1, .int .i64 r.tx.2.2, .int .i64 r.aud, v, .int .i64 o] := fun _ _ => rfl
  generalize blL r = BL at hR hblS hbl0
  generalize blC r = BC at hblS hblc
  unfold rcV rcC at hCk ⊢
  obtain ⟨⟨xa, xb, xc⟩, xd, mbs, tags⟩ := r
  simp only at hCk hmr hml hR hblc ⊢
  obtain ⟨pm, cm, rfl⟩ := hmr.slice
  refine calls_go 4000 okT Tryz.func35 rfl (rs := [.tmp 2]) rfl Tryz.ntmps35 (args := [.agg #[.int .i64 xa, .int .i64 xb, .int .i64 xc, .int .i64 xd, .slice pm mbs.length cm, st]]) ?_
  simp (maxSteps := 1000000) (disch := first | omega | (simp only [sizeAlloc, sizeDrew, sizeSet, sizePut] <;> omega) | fail) only [GS, TT_eq, TTl, Nat.reduceAdd, Nat.reduceMul, Nat.reduceSub, Nat.reduceDiv, Nat.reduceMod, Nat.reducePow, Nat.reduceEqDiff, ↓reduceIte, reduceCtorEq, Int.reduceToNat, Int.reduceAdd, Int.reduceSub, Int.reduceMul, ost, cellsL_one ost]
  have hM0 := (Mod.refl [] w).alloc (.cells #[.int .i64 xa, .int .i64 xb, .int .i64 xc, .int .i64 xd, .slice pm mbs.length cm, st] 28)
  have hA := heapNew (w := w) (o := .cells #[.int .i64 xa, .int .i64 xb, .int .i64 xc, .int .i64 xd, .slice pm mbs.length cm, st] 28)
  generalize w.alloc (.cells #[.int .i64 xa, .int .i64 xb, .int .i64 xc, .int .i64 xd, .slice pm mbs.length cm, st] 28) = w1 at hM0 hA ⊢
  generalize hn : w.heap.size = n at *
  refine ⟨fok33, hCk _ (hrW _ hM0) _ fun w2 hM2 => .inl ⟨_, rfl, hold_ops okT (rs := [.tmp 2]) rfl ?_⟩⟩
  have hA2 := hM2.get hA (by simp)
  have hM02 := hM0.trans hM2 (by simp)
  have c2 := fun o => cellOf (o := o) hA2
  cases M
  · simp (maxSteps := 1000000) (disch := first | omega | (simp only [sizeAlloc, sizeDrew, sizeSet, sizePut] <;> omega) | fail) only [GS, TT_eq, TTl, Nat.reduceAdd, Nat.reduceMul, Nat.reduceSub, Nat.reduceDiv, Nat.reduceMod, Nat.reducePow, Nat.reduceEqDiff, ↓reduceIte, reduceCtorEq, Int.reduceToNat, Int.reduceAdd, Int.reduceSub, Int.reduceMul]
    exact hN rfl _ hM02
  have hs0 := hM02.size
  simp (maxSteps := 1000000) (disch := first | omega | (simp only [sizeAlloc, sizeDrew, sizeSet, sizePut] <;> omega) | fail) only [GS, TT_eq, TTl, Nat.reduceAdd, Nat.reduceMul, Nat.reduceSub, Nat.reduceDiv, Nat.reduceMod, Nat.reducePow, Nat.reduceEqDiff, ↓reduceIte, reduceCtorEq, Int.reduceToNat, Int.reduceAdd, Int.reduceSub, Int.reduceMul, c2]
  refine hold_loop okT (rs := [.tmp 2]) rfl [3, 4] [8, 9, 10, 11, 12, 13, 14, 15, 16, 17, 18, 19, 20, 21, 22, 23, 24, 25, 26, 27, 28, 29, 30] (fun vs w' => ∃ (k : Nat) (sv : Value), vs = [sv, .int .i64 k] ∧ k ≤ mbs.length ∧ w'.ownsRow w2.heap.size 56 6 sv k (BL (List.replicate k (.slice pm mbs.length cm)) (mbs.take k)) ∧ Mod [] w2 w') (fun vs _ => match vs with | [_, .int _ i] => mbs.length - i.toNat | _ => 0) (by kernel_rfl) ⟨0, .slice none 0 0, rfl, by omega, by rw [List.take_zero, List.replicate_zero, hbl0]; exact World.ownsRow_nil _ _ _ _, Mod.refl _ _⟩ ?_
  rintro vs w3 J ⟨k, sv, rfl, hk, hown, hM3⟩
  have hM03 := hM02.trans hM3 (by simp)
  have hA3 := hM3.get hA2 (by simp)
  have hcl := ownsRow_one hown
  obtain ⟨va, vc, rfl⟩ := (Rd.own hown).slice
  by_cases hlt : k < mbs.length
  · have hrd := hmr.mod hM03 (by simp)
    obtain ⟨b1, o1, c1, e1, _, g1⟩ := hrd.at (by omega) (by omega)
    have hfl := fun j hj => flat_get mbC 2 mbC_len mbs k hlt j hj
    have htk := List.take_succ_eq_append_getElem hlt
    generalize mbs[k] = m at hfl htk
    obtain ⟨mo, md⟩ := m
    rw [Value.slice.injEq] at e1
    obtain ⟨rfl, -, -⟩ := e1
    have d0 : w3.cell? ⟨b1, o1 + k * 2, none⟩ = some (.int .i64 mo) := by rw [← g1 (k * 2) _ (hfl 0 (by omega))]
    have c3 := fun o => cellOf (o := o) hA3
    simp (maxSteps := 1000000) (disch := first | omega | (simp only [sizeAlloc, sizeDrew, sizeSet, sizePut] <;> omega) | fail) only [GS, TT_eq, TTl, Nat.reduceAdd, Nat.reduceMul, Nat.reduceSub, Nat.reduceDiv, Nat.reduceMod, Nat.reducePow, Nat.reduceEqDiff, ↓reduceIte, reduceCtorEq, Int.reduceToNat, Int.reduceAdd, Int.reduceSub, Int.reduceMul, c3, d0]
    refine hold_draw okT (rs := [.tmp 2]) rfl [0, 0, 2, 0, 8, 0, 32, 0, 128, 0, 896, 1920, 3968, 8190, 16382, 32767, 65535] [0, 1, 2, 3, 4, 5, 6, 7, 8, 9, 10, 11, 12, 13, 14, 15, 16] (by kernel_rfl) (by kernel_rfl) ?_
    have hA4 : (w3.drewN 1).heap[n]? = _ := hA3
    have d4 : (w3.drewN 1).cell? ⟨b1, o1 + k * 2, none⟩ = some (.int .i64 mo) := d0
    have hM34 := (Mod.refl [] w3).drewN 1
    have hown4 := ownsRow_mod hown hM34 (by simp)
    generalize w3.drewN 1 = w4 at *
    have c4 := fun o => cellOf (o := o) hA4
    simp (maxSteps := 1000000) (disch := first | omega | (simp only [sizeAlloc, sizeDrew, sizeSet, sizePut] <;> omega) | fail) only [GS, TT_eq, TTl, Nat.reduceAdd, Nat.reduceMul, Nat.reduceSub, Nat.reduceDiv, Nat.reduceMod, Nat.reducePow, Nat.reduceEqDiff, ↓reduceIte, reduceCtorEq, Int.reduceToNat, Int.reduceAdd, Int.reduceSub, Int.reduceMul, c4, d4]
    have hM24 := hM3.trans hM34 (by simp)
    refine hold_dappendN okT rfl rfl rfl rfl (by decide) w2.heap.size hown4 rfl rfl (news := [.int .i64 xa, .int .i64 xb, .int .i64 xc, .int .i64 xd, .slice (some ⟨b1, o1, none⟩) mbs.length cm, .int .i64 mo]) rfl (by decide) (by intro u hu; simp only [List.mem_cons, List.not_mem_nil, or_false] at hu; rcases hu with rfl | rfl | rfl | rfl | rfl | rfl <;> rfl) (by simp only; omega) (by unfold maxLen; omega) hM24.size fun v' w7 hown7 hM7 _ => ⟨?_, hold_dops okT (rs := [.tmp 2]) rfl ?_⟩
    · simp (maxSteps := 1000000) only [GS, TT_eq, TTl, Nat.reduceAdd, Nat.reduceMul, Nat.reduceSub, Nat.reduceDiv, Nat.reduceMod, Nat.reducePow, Nat.reduceEqDiff, ↓reduceIte, reduceCtorEq, Int.reduceToNat, Int.reduceAdd, Int.reduceSub, Int.reduceMul]
    have hob : ∀ y ∈ (Value.slice va k vc).ownBlock.toList, w2.heap.size ≤ y := fun y hy => (hown4.lt y (by simpa using hy)).1
    have hM27 := hM24.trans hM7 (fun y hy => .inr (hob y hy))
    simp (maxSteps := 1000000) (disch := first | omega | (simp only [sizeAlloc, sizeDrew, sizeSet, sizePut] <;> omega) | fail) only [GS, TT_eq, TTl, Nat.reduceAdd, Nat.reduceMul, Nat.reduceSub, Nat.reduceDiv, Nat.reduceMod, Nat.reducePow, Nat.reduceEqDiff, ↓reduceIte, reduceCtorEq, Int.reduceToNat, Int.reduceAdd, Int.reduceSub, Int.reduceMul]
    refine ⟨⟨k + 1, _, rfl, by omega, ?_, hM27⟩, by omega⟩
    rw [htk, List.replicate_succ', hblS _ (mbs.take k) _ (mo, md) (by rw [List.length_replicate, List.length_take]; omega), hblc]
    exact hown7
  · have e : k = mbs.length := by omega
    subst e
    rw [List.take_length] at hown
    have c3 := fun o => cellOf (o := o) hA3
    simp (maxSteps := 1000000) (disch := first | omega | (simp only [sizeAlloc, sizeDrew, sizeSet, sizePut] <;> omega) | fail) only [GS, TT_eq, TTl, Nat.reduceAdd, Nat.reduceMul, Nat.reduceSub, Nat.reduceDiv, Nat.reduceMod, Nat.reducePow, Nat.reduceEqDiff, ↓reduceIte, reduceCtorEq, Int.reduceToNat, Int.reduceAdd, Int.reduceSub, Int.reduceMul, c3]
    exact hR _ _ rfl (ownsRow_base hown (by omega)) hM03
set_option maxRecDepth 20000 in
set_option maxHeartbeats 4000000 in
theorem rPlace13_cps (sa : Value) (xs : List Mb) (org : Int) (w : World) (R : Ending → World → Prop) (hx : xs.length ≤ 1000000) (ha : Rd w 2 sa xs.length (xs.flatMap mbC))
    (h1 : ∀ k w', (hk : k < xs.length) → xs[k].1 = org → Mod [] w w' → R (.returned (.int .i64 (k : Nat))) w') (h0 : (∀ m ∈ xs, m.1 ≠ org) → ∀ w', Mod [] w w' → R (.returned (.int .i64 (-1))) w') :
    Calls Tryz.prog 108 #[sa, .int .i64 org] w R := by
  obtain ⟨a, ca, rfl⟩ := ha.slice
  refine calls_go 4000 okT Tryz.func108 rfl (rs := [.tmp 4]) rfl Tryz.ntmps108 (args := [.slice a xs.length ca, .int .i64 org]) ?_
  simp (maxSteps := 1000000) (disch := first | omega | (simp only [sizeAlloc, sizeDrew, sizeSet, sizePut] <;> omega) | fail) only [GS, TT_eq, TTl, Nat.reduceAdd, Nat.reduceMul, Nat.reduceSub, Nat.reduceDiv, Nat.reduceMod, Nat.reducePow, Nat.reduceEqDiff, ↓reduceIte, reduceCtorEq, Int.reduceToNat, Int.reduceAdd, Int.reduceSub, Int.reduceMul]
  refine hold_loop okT (rs := [.tmp 4]) rfl [5] [4, 6, 7, 8, 9, 10, 11, 12, 13, 14, 15, 16, 17, 18, 19] (fun vs w' => ∃ k : Nat, k ≤ xs.length ∧ vs = [.int .i64 k] ∧ Mod [] w w' ∧ ∀ s ∈ xs.take k, s.1 ≠ org) (fun vs _ => match vs with | [.int _ i] => xs.length - i.toNat | _ => 0) (by kernel_rfl) ⟨0, by omega, rfl, Mod.refl _ _, by simp⟩ ?_
  rintro vs w1 J ⟨k, hk, rfl, hM, hn⟩
  by_cases hlt : k < xs.length
  · obtain ⟨b1, o1, c1, e1, _, g1⟩ := (ha.mod hM (by simp)).at (by omega) (by omega)
    have hfl := fun j hj => flat_get mbC 2 mbC_len xs k hlt j hj
    have htk := List.take_succ_eq_append_getElem hlt
    have h1k := fun w' h hm => h1 k w' hlt h hm
    generalize xs[k] = m at hfl htk h1k
    rw [Value.slice.injEq] at e1
    obtain ⟨rfl, -, -⟩ := e1
    have d0 : w1.cell? ⟨b1, o1 + k * 2, none⟩ = some (.int .i64 m.1) := by rw [← g1 (k * 2) _ (hfl 0 (by omega))]
    by_cases hc : m.1 = org
    · simp (maxSteps := 1000000) (disch := first | omega | (simp only [sizeAlloc, sizeDrew, sizeSet, sizePut] <;> omega) | fail) only [GS, TT_eq, TTl, Nat.reduceAdd, Nat.reduceMul, Nat.reduceSub, Nat.reduceDiv, Nat.reduceMod, Nat.reducePow, Nat.reduceEqDiff, ↓reduceIte, reduceCtorEq, Int.reduceToNat, Int.reduceAdd, Int.reduceSub, Int.reduceMul, d0, hc, eq_self]
      exact h1k _ hc hM
    · simp (maxSteps := 1000000) (disch := first | omega | (simp only [sizeAlloc, sizeDrew, sizeSet, sizePut] <;> omega) | fail) only [GS, TT_eq, TTl, Nat.reduceAdd, Nat.reduceMul, Nat.reduceSub, Nat.reduceDiv, Nat.reduceMod, Nat.reducePow, Nat.reduceEqDiff, ↓reduceIte, reduceCtorEq, Int.reduceToNat, Int.reduceAdd, Int.reduceSub, Int.reduceMul, d0, hc]
      refine ⟨⟨k + 1, by omega, rfl, hM, ?_⟩, by omega⟩
      rw [htk]
      intro s hs
      rcases List.mem_append.1 hs with hs | hs
      · exact hn s hs
      · rw [List.mem_singleton.1 hs]; exact hc
  · have e : k = xs.length := by omega
    subst e
    rw [List.take_length] at hn
    simp (maxSteps := 1000000) (disch := first | omega | (simp only [sizeAlloc, sizeDrew, sizeSet, sizePut] <;> omega) | fail) only [GS, TT_eq, TTl, Nat.reduceAdd, Nat.reduceMul, Nat.reduceSub, Nat.reduceDiv, Nat.reduceMod, Nat.reducePow, Nat.reduceEqDiff, ↓reduceIte, reduceCtorEq, Int.reduceToNat, Int.reduceAdd, Int.reduceSub, Int.reduceMul]
    exact h0 hn _ hM
set_option maxRecDepth 20000 in
set_option maxHeartbeats 8000000 in
theorem rNames26_cps (r : Rcp) (sm st : Value) (org : Int) (w : World) (hr : RcpIn w r sm st) (R : Ending → World → Prop)
    (h1 : ∀ k (hk : k < r.mbs.length) (hk2 : k < r.tags.length) w', mayR r = true → r.mbs[k].1 = org → Mod [] w w' → R (.returned (.tuple #[.string ⟨r.mbs[k].2.toArray⟩, .string ⟨(r.tags[k]).toArray⟩, .bool true])) w')
    (h0 : (mayR r = false ∨ ∀ m ∈ r.mbs, m.1 ≠ org) → ∀ w', Mod [] w w' → R (.returned (.tuple #[.string ⟨#[]⟩, .string ⟨#[]⟩, .bool false])) w') :
    Calls Tryz.prog 32 #[rcV r sm st, .int .i64 org] w R := by
  have hCk := rMay26_cps r sm st
  have hIx := rPlace13_cps sm r.mbs org
  have hrW : ∀ w', Mod [] w w' → RcpIn w' r sm st := fun w' hM => hr.mod hM
  have hml := hr.mlen
  have hmr := hr.mrd
  have htr := hr.trd
  have hmay := @may_is r
  clear hr
  generalize mayR r = M at *
  obtain ⟨⟨xa, xb, xc⟩, xd, mbs, tags⟩ := r
  unfold rcV rcC at hCk ⊢
  simp only at hCk hIx hml hmr htr h1 h0 hmay ⊢
  obtain ⟨pm, cm, rfl⟩ := hmr.slice
  obtain ⟨pt, ct, rfl⟩ := htr.slice
  refine calls_go 4000 okT Tryz.func32 rfl (rs := [.tmp 4, .tmp 5, .tmp 6]) rfl Tryz.ntmps32 (args := [.agg #[.int .i64 xa, .int .i64 xb, .int .i64 xc, .int .i64 xd, .slice pm mbs.length cm, .slice pt tags.length ct], .int .i64 org]) ?_
  simp (maxSteps := 1000000) (disch := first | omega | (simp only [sizeAlloc, sizeDrew, sizeSet, sizePut] <;> omega) | fail) only [GS, TT_eq, TTl, Nat.reduceAdd, Nat.reduceMul, Nat.reduceSub, Nat.reduceDiv, Nat.reduceMod, Nat.reducePow, Nat.reduceEqDiff, ↓reduceIte, reduceCtorEq, Int.reduceToNat, Int.reduceAdd, Int.reduceSub, Int.reduceMul]
  generalize hW : w.alloc (.cells #[.int .i64 xa, .int .i64 xb, .int .i64 xc, .int .i64 xd, .slice pm mbs.length cm, .slice pt tags.length ct] 28) = w1
  obtain ⟨hA, hM0⟩ := box6' hW
  clear hW
  generalize hn : w.heap.size = n at *
  refine ⟨fok108, hIx _ _ (by omega) (hmr.mod hM0 (by simp)) (fun k w2 hk hko hM2 => .inl ⟨_, rfl, hold_ops okT (rs := [.tmp 4, .tmp 5, .tmp 6]) rfl ?_⟩) (fun hno w2 hM2 => .inl ⟨_, rfl, hold_ops okT (rs := [.tmp 4, .tmp 5, .tmp 6]) rfl ?_⟩)⟩
  rotate_left
  · have hM02 := hM0.trans hM2 (by simp)
    have hA2 := hM2.get hA (by simp)
    have c2 := fun o => cellOf (o := o) hA2
    simp (maxSteps := 1000000) (disch := first | omega | (simp only [sizeAlloc, sizeDrew, sizeSet, sizePut] <;> omega) | fail) only [GS, TT_eq, TTl, Nat.reduceAdd, Nat.reduceMul, Nat.reduceSub, Nat.reduceDiv, Nat.reduceMod, Nat.reducePow, Nat.reduceEqDiff, ↓reduceIte, reduceCtorEq, Int.reduceToNat, Int.reduceAdd, Int.reduceSub, Int.reduceMul, c2]
    refine ⟨fok33, hCk _ (hrW _ hM02) _ fun w3 hM3 => .inl ⟨_, rfl, hold_ops okT (rs := [.tmp 4, .tmp 5, .tmp 6]) rfl ?_⟩⟩
    cases M
    · simp (maxSteps := 1000000) (disch := first | omega | (simp only [sizeAlloc, sizeDrew, sizeSet, sizePut] <;> omega) | fail) only [GS, TT_eq, TTl, Nat.reduceAdd, Nat.reduceMul, Nat.reduceSub, Nat.reduceDiv, Nat.reduceMod, Nat.reducePow, Nat.reduceEqDiff, ↓reduceIte, reduceCtorEq, Int.reduceToNat, Int.reduceAdd, Int.reduceSub, Int.reduceMul]
      exact h0 (.inr hno) _ (hM02.trans hM3 (by simp))
    · simp (maxSteps := 1000000) (disch := first | omega | (simp only [sizeAlloc, sizeDrew, sizeSet, sizePut] <;> omega) | fail) only [GS, TT_eq, TTl, Nat.reduceAdd, Nat.reduceMul, Nat.reduceSub, Nat.reduceDiv, Nat.reduceMod, Nat.reducePow, Nat.reduceEqDiff, ↓reduceIte, reduceCtorEq, Int.reduceToNat, Int.reduceAdd, Int.reduceSub, Int.reduceMul]
      exact h0 (.inr hno) _ (hM02.trans hM3 (by simp))
  have hM02 := hM0.trans hM2 (by simp)
  have hA2 := hM2.get hA (by simp)
  have c2 := fun o => cellOf (o := o) hA2
  have hk0 : ¬ ((k : Nat) : Int) < 0 := by omega
  simp (maxSteps := 1000000) (disch := first | omega | (simp only [sizeAlloc, sizeDrew, sizeSet, sizePut] <;> omega) | fail) only [GS, TT_eq, TTl, Nat.reduceAdd, Nat.reduceMul, Nat.reduceSub, Nat.reduceDiv, Nat.reduceMod, Nat.reducePow, Nat.reduceEqDiff, ↓reduceIte, reduceCtorEq, Int.reduceToNat, Int.reduceAdd, Int.reduceSub, Int.reduceMul, c2]
  refine ⟨fok33, hCk _ (hrW _ hM02) _ fun w3 hM3 => .inl ⟨_, rfl, hold_ops okT (rs := [.tmp 4, .tmp 5, .tmp 6]) rfl ?_⟩⟩
  have hM03 := hM02.trans hM3 (by simp)
  cases M
  · simp (maxSteps := 1000000) (disch := first | omega | (simp only [sizeAlloc, sizeDrew, sizeSet, sizePut] <;> omega) | fail) only [GS, TT_eq, TTl, Nat.reduceAdd, Nat.reduceMul, Nat.reduceSub, Nat.reduceDiv, Nat.reduceMod, Nat.reducePow, Nat.reduceEqDiff, ↓reduceIte, reduceCtorEq, Int.reduceToNat, Int.reduceAdd, Int.reduceSub, Int.reduceMul]
    exact h0 (.inl rfl) _ hM03
  have hlen := (hmay rfl).2.2.2.1
  have hk2 : k < tags.length := by omega
  have hA3 := hM3.get hA2 (by simp)
  have c3 := fun o => cellOf (o := o) hA3
  obtain ⟨b1, o1, c1, e1, _, g1⟩ := (hmr.mod hM03 (by simp)).at (by omega) (by omega)
  obtain ⟨b2, o2, c4, e2, _, g2⟩ := (htr.mod hM03 (by simp)).at (by omega) (by omega)
  have hfl := fun j hj => flat_get mbC 2 mbC_len mbs k hk j hj
  have f2 := g2 k _ (getS hk2)
  have hF := fun w' hm => h1 k hk hk2 w' rfl hko hm
  generalize tags[k] = tg at f2 hF
  generalize mbs[k] = m at hfl hF
  rw [Value.slice.injEq] at e1 e2
  obtain ⟨rfl, -, -⟩ := e1
  obtain ⟨rfl, -, -⟩ := e2
  have d1 : w3.cell? ⟨b1, o1 + k * 2 + 1, none⟩ = some (.string ⟨m.2.toArray⟩) := by rw [← g1 (k * 2 + 1) _ (hfl 1 (by omega))]; rfl
  simp (maxSteps := 1000000) (disch := first | omega | (simp only [sizeAlloc, sizeDrew, sizeSet, sizePut] <;> omega) | fail) only [GS, TT_eq, TTl, Nat.reduceAdd, Nat.reduceMul, Nat.reduceSub, Nat.reduceDiv, Nat.reduceMod, Nat.reducePow, Nat.reduceEqDiff, ↓reduceIte, reduceCtorEq, Int.reduceToNat, Int.reduceAdd, Int.reduceSub, Int.reduceMul, c3, d1, f2, hk0]
  exact ⟨by kernel_rfl, fun d => hF _ (hM03.drewN d)⟩
set_option maxRecDepth 20000 in
set_option maxHeartbeats 8000000 in
theorem rSame13_cps (r : Rcp) (v1 v2 : Value) (o : Int) (l : List Mb) (w : World) (hl : l.length ≤ 1000000) (ha : Rd w 2 v1 l.length (l.flatMap mbC)) (hb : Rd w 2 v2 l.length (l.flatMap mbC)) (R : Ending → World → Prop) (hR : ∀ w', Mod [] w w' → R (.returned (.bool true)) w') :
    Calls Tryz.prog 36 #[.agg (blC r v1 o).toArray, .agg (blC r v2 o).toArray] w R := by
  have os1 : v1.oneCell' = true := by obtain ⟨a, c, e⟩ := ha.slice; rw [e]; rfl
  have os2 : v2.oneCell' = true := by obtain ⟨a, c, e⟩ := hb.slice; rw [e]; rfl
  obtain ⟨⟨xa, xb, xc⟩, xd, mbs, tags⟩ := r
  unfold blC
  simp only
  refine calls_go 4000 okT Tryz.func36 rfl (rs := [.tmp 4]) rfl Tryz.ntmps36 (args := [.agg #[.int .i64 xa, .int .i64 xb, .int .i64 xc, .int .i64 xd, v1, .int .i64 o], .agg #[.int .i64 xa, .int .i64 xb, .int .i64 xc, .int .i64 xd, v2, .int .i64 o]]) ?_
  simp (maxSteps := 1000000) (disch := first | omega | (simp only [sizeAlloc, sizeDrew, sizeSet, sizePut] <;> omega) | fail) only [GS, TT_eq, TTl, Nat.reduceAdd, Nat.reduceMul, Nat.reduceSub, Nat.reduceDiv, Nat.reduceMod, Nat.reducePow, Nat.reduceEqDiff, ↓reduceIte, reduceCtorEq, Int.reduceToNat, Int.reduceAdd, Int.reduceSub, Int.reduceMul, eq_self, os1, os2, cellsL_one os1, cellsL_one os2]
  generalize hW : (w.alloc (.cells #[.int .i64 xa, .int .i64 xb, .int .i64 xc, .int .i64 xd, v1, .int .i64 o] 56)).alloc (.cells #[.int .i64 xa, .int .i64 xb, .int .i64 xc, .int .i64 xd, v2, .int .i64 o] 56) = w1
  have hM0 : Mod [] w w1 := by subst hW; exact ((Mod.refl [] w).alloc _).alloc _
  clear hW
  refine ⟨fok50, SameM_cps v1 v2 l l _ _ hl (ha.mod hM0 (by simp)) (hb.mod hM0 (by simp)) fun w2 hM2 => .inl ⟨_, rfl, hold_ops okT (rs := [.tmp 4]) rfl ?_⟩⟩
  rw [decide_eq_true (rfl : l = l)]
  simp (maxSteps := 1000000) (disch := first | omega | (simp only [sizeAlloc, sizeDrew, sizeSet, sizePut] <;> omega) | fail) only [GS, TT_eq, TTl, Nat.reduceAdd, Nat.reduceMul, Nat.reduceSub, Nat.reduceDiv, Nat.reduceMod, Nat.reducePow, Nat.reduceEqDiff, ↓reduceIte, reduceCtorEq, Int.reduceToNat, Int.reduceAdd, Int.reduceSub, Int.reduceMul]
  exact hR _ (hM0.trans hM2 (by simp))
end Go.Proofs.YtpcilobbohokcaaGreat
