/-
  receipt.Names (walk).
-/
import Derived.Test.YtpcilobbohokcaaGreatRtlRcpE
set_option linter.unusedSimpArgs false
set_option linter.unusedVariables false
set_option maxRecDepth 20000
namespace Go.Proofs.YtpcilobbohokcaaGreat
open Go Go.Wk Go.RowKit
attribute [local irreducible] go Hold
open Go.Lib
theorem eNam1_cps (m : Mb) (org : Int) (b : Nat) (w : World) (hb : w.heap[b]? = some (.cells #[.int .i64 org] 3 (0, 0))) (R : Ending → World → Prop) (hR : ∀ w', Mod [] w w' → R (.returned (.bool (decide (m.1 = org)))) w') :
    Calls Tryz.prog 107 #[.agg #[.int .i64 m.1, .string ⟨m.2.toArray⟩], .pointer (some ⟨b, 0, none⟩)] w R := by
  obtain ⟨mo, md⟩ := m
  simp only at hR ⊢
  have hbl := (Array.getElem?_eq_some_iff.1 hb).1
  have cb := fun o => cellOf (o := o) hb
  refine calls_go 4000 okT Tryz.func107 rfl (rs := [.tmp 3]) rfl Tryz.ntmps107 (args := [.agg #[.int .i64 mo, .string ⟨md.toArray⟩], .pointer (some ⟨b, 0, none⟩)]) ?_
  by_cases h : mo = org
  · rw [decide_eq_true h] at hR
    simp (maxSteps := 1000000) (disch := first | omega | (simp only [sizeAlloc, sizeDrew, sizeSet, sizePut] <;> omega) | fail) only [GS, TT_eq, TTl, Nat.reduceAdd, Nat.reduceMul, Nat.reduceSub, Nat.reduceDiv, Nat.reduceMod, Nat.reducePow, Nat.reduceEqDiff, ↓reduceIte, reduceCtorEq, Int.reduceToNat, Int.reduceAdd, Int.reduceSub, Int.reduceMul, cb, h]
    first | exact hR _ ((Mod.refl [] w).alloc _) | (rw [h]; exact hR _ ((Mod.refl [] w).alloc _))
  · rw [decide_eq_false h] at hR
    simp (maxSteps := 1000000) (disch := first | omega | (simp only [sizeAlloc, sizeDrew, sizeSet, sizePut] <;> omega) | fail) only [GS, TT_eq, TTl, Nat.reduceAdd, Nat.reduceMul, Nat.reduceSub, Nat.reduceDiv, Nat.reduceMod, Nat.reducePow, Nat.reduceEqDiff, ↓reduceIte, reduceCtorEq, Int.reduceToNat, Int.reduceAdd, Int.reduceSub, Int.reduceMul, cb, h]
    exact hR _ ((Mod.refl [] w).alloc _)
set_option maxRecDepth 20000 in
set_option maxHeartbeats 4000000 in
theorem eIdxM_cps (sa : Value) (xs : List Mb) (org : Int) (b : Nat) (w : World) (hb : w.heap[b]? = some (.cells #[.int .i64 org] 3 (0, 0))) (R : Ending → World → Prop) (hx : xs.length ≤ 9223372036854775807) (ha : Rd w 2 sa xs.length (xs.flatMap mbC))
    (h1 : ∀ k w', (hk : k < xs.length) → xs[k].1 = org → Mod [] w w' → R (.returned (.int .i64 (k : Nat))) w') (h0 : (∀ m ∈ xs, m.1 ≠ org) → ∀ w', Mod [] w w' → R (.returned (.int .i64 (-1))) w') :
    Calls Tryz.prog 106 #[sa, .func (.func 107) #[] #[.pointer (some ⟨b, 0, none⟩)]] w R := by
  obtain ⟨a, ca, rfl⟩ := ha.slice
  refine calls_go 4000 okT Tryz.func106 rfl (rs := [.tmp 4]) rfl Tryz.ntmps106 (args := [.slice a xs.length ca, .func (.func 107) #[] #[.pointer (some ⟨b, 0, none⟩)]]) ?_
  simp (maxSteps := 1000000) (disch := first | omega | (simp only [sizeAlloc, sizeDrew, sizeSet, sizePut] <;> omega) | fail) only [GS, TT_eq, TTl, Nat.reduceAdd, Nat.reduceMul, Nat.reduceSub, Nat.reduceDiv, Nat.reduceMod, Nat.reducePow, Nat.reduceEqDiff, ↓reduceIte, reduceCtorEq, Int.reduceToNat, Int.reduceAdd, Int.reduceSub, Int.reduceMul]
  refine hold_loop okT (rs := [.tmp 4]) rfl [8] [4, 5, 9, 10, 11, 12, 13, 14, 15, 16, 17, 18] (fun vs w' => ∃ k : Nat, k ≤ xs.length ∧ vs = [.int .i64 k] ∧ Mod [] w w' ∧ ∀ s ∈ xs.take k, s.1 ≠ org) (fun vs _ => match vs with | [.int _ i] => xs.length - i.toNat | _ => 0) (by kernel_rfl) ⟨0, by omega, rfl, Mod.refl _ _, by simp⟩ ?_
  rintro vs w1 J ⟨k, hk, rfl, hM, hn⟩
  by_cases hlt : k < xs.length
  · obtain ⟨b1, o1, c1, e1, _, g1⟩ := (ha.mod hM (by simp)).at (by omega) (by omega)
    have hfl := fun j hj => flat_get mbC 2 mbC_len xs k hlt j hj
    have htk := List.take_succ_eq_append_getElem hlt
    have h1k := fun w' h hm => h1 k w' hlt h hm
    generalize xs[k] = m at hfl htk h1k
    rw [Value.slice.injEq] at e1
    obtain ⟨rfl, -, -⟩ := e1
    have d0 : w1.cell? ⟨b1, o1 + k * 2, none⟩ = some (.int .i64 m.1) := by rw [← g1 (k * 2) _ (hfl 0 (by omega))]
    have d1 : w1.cell? ⟨b1, o1 + k * 2 + 1, none⟩ = some (.string ⟨m.2.toArray⟩) := by rw [← g1 (k * 2 + 1) _ (hfl 1 (by omega))]; rfl
    simp (maxSteps := 1000000) (disch := first | omega | (simp only [sizeAlloc, sizeDrew, sizeSet, sizePut] <;> omega) | fail) only [GS, TT_eq, TTl, Nat.reduceAdd, Nat.reduceMul, Nat.reduceSub, Nat.reduceDiv, Nat.reduceMod, Nat.reducePow, Nat.reduceEqDiff, ↓reduceIte, reduceCtorEq, Int.reduceToNat, Int.reduceAdd, Int.reduceSub, Int.reduceMul, d0, d1]
    refine ⟨fok107, eNam1_cps m org b _ (hM.get hb (by simp)) _ fun w2 hM2 => .inl ⟨_, rfl, hold_ops okT (rs := [.tmp 4]) rfl ?_⟩⟩
    have hM02 := hM.trans hM2 (by simp)
    by_cases hc : m.1 = org
    · simp (maxSteps := 1000000) (disch := first | omega | (simp only [sizeAlloc, sizeDrew, sizeSet, sizePut] <;> omega) | fail) only [GS, TT_eq, TTl, Nat.reduceAdd, Nat.reduceMul, Nat.reduceSub, Nat.reduceDiv, Nat.reduceMod, Nat.reducePow, Nat.reduceEqDiff, ↓reduceIte, reduceCtorEq, Int.reduceToNat, Int.reduceAdd, Int.reduceSub, Int.reduceMul, hc, decide_true]
      exact h1k _ hc hM02
    · simp (maxSteps := 1000000) (disch := first | omega | (simp only [sizeAlloc, sizeDrew, sizeSet, sizePut] <;> omega) | fail) only [GS, TT_eq, TTl, Nat.reduceAdd, Nat.reduceMul, Nat.reduceSub, Nat.reduceDiv, Nat.reduceMod, Nat.reducePow, Nat.reduceEqDiff, ↓reduceIte, reduceCtorEq, Int.reduceToNat, Int.reduceAdd, Int.reduceSub, Int.reduceMul, hc, decide_false]
      refine ⟨⟨k + 1, by omega, rfl, hM02, ?_⟩, by omega⟩
      rw [htk]
      intro s hs
      rcases List.mem_append.1 hs with hs | hs
      · exact hn s hs
      · rw [List.mem_singleton.1 hs]; exact hc
  · have e : k = xs.length := by omega
    subst e
    rw [List.take_length] at hn
    simp (maxSteps := 1000000) (disch := first | omega | (simp only [sizeAlloc, sizeDrew, sizeSet, sizePut] <;> omega) | fail) only [GS, TT_eq, TTl, Nat.reduceAdd, Nat.reduceMul, Nat.reduceSub, Nat.reduceDiv, Nat.reduceMod, Nat.reducePow, Nat.reduceEqDiff, ↓reduceIte, reduceCtorEq, Int.reduceToNat, Int.reduceAdd, Int.reduceSub, Int.reduceMul]
    exact h0 hn _ hM
theorem mbs_uniq {c : Int} : ∀ {l : List Mb} {last : Int}, mbsB c last l = true → ∀ (i j : Nat) (hi : i < l.length) (hj : j < l.length), l[i].1 = l[j].1 → i = j
  | [], _, _, i, _, hi, _, _ => by simp at hi
  | y :: l, last, h, 0, 0, _, _, _ => rfl
  | y :: l, last, h, 0, j + 1, hi, hj, e => by
    simp only [mbsB, Bool.and_eq_true, decide_eq_true_eq] at h
    simp only [List.getElem_cons_zero, List.getElem_cons_succ] at e
    have := mbs_lt h.2 _ (List.getElem_mem (show j < l.length by simpa using hj))
    omega
  | y :: l, last, h, i + 1, 0, hi, hj, e => by
    simp only [mbsB, Bool.and_eq_true, decide_eq_true_eq] at h
    simp only [List.getElem_cons_zero, List.getElem_cons_succ] at e
    have := mbs_lt h.2 _ (List.getElem_mem (show i < l.length by simpa using hi))
    omega
  | y :: l, last, h, i + 1, j + 1, hi, hj, e => by
    simp only [mbsB, Bool.and_eq_true, decide_eq_true_eq] at h
    simp only [List.getElem_cons_succ] at e
    have := mbs_uniq h.2 i j (by simpa using hi) (by simpa using hj) e
    omega
set_option maxRecDepth 20000 in
set_option maxHeartbeats 8000000 in
theorem eNames_cps (r : Rcp) (sm st : Value) (org : Int) (w : World) (hr : RcpIn w r sm st) (R : Ending → World → Prop)
    (h1 : ∀ k (hk : k < r.mbs.length) (hk2 : k < r.tags.length) w', mayR r = true → r.mbs[k].1 = org → Mod [] w w' → R (.returned (.tuple #[.string ⟨r.mbs[k].2.toArray⟩, .string ⟨(r.tags[k]).toArray⟩, .bool true])) w')
    (h0 : (mayR r = false ∨ ∀ m ∈ r.mbs, m.1 ≠ org) → ∀ w', Mod [] w w' → R (.returned (.tuple #[.string ⟨#[]⟩, .string ⟨#[]⟩, .bool false])) w') :
    Calls Tryz.prog 31 #[rcV r sm st, .int .i64 org] w R := by
  have hCk := eCheck_cps r sm st
  have hIx := eIdxM_cps sm r.mbs org
  have hrW : ∀ w', Mod [] w w' → RcpIn w' r sm st := fun w' hM => hr.mod hM
  have hml := hr.mlen
  have hmr := hr.mrd
  have htr := hr.trd
  have hmay := @may_is r
  clear hr
  generalize mayR r = M at *
  obtain ⟨⟨xa, xb, xc⟩, xd, mbs, tags⟩ := r
  unfold rcV rcC at hCk ⊢
  simp only at hCk hIx hml hmr htr h1 h0 hmay ⊢
  obtain ⟨pm, cm, rfl⟩ := hmr.slice
  obtain ⟨pt, ct, rfl⟩ := htr.slice
  refine calls_go 4000 okT Tryz.func31 rfl (rs := [.tmp 4, .tmp 5, .tmp 6]) rfl Tryz.ntmps31 (args := [.agg #[.int .i64 xa, .int .i64 xb, .int .i64 xc, .int .i64 xd, .slice pm mbs.length cm, .slice pt tags.length ct], .int .i64 org]) ?_
  simp (maxSteps := 1000000) (disch := first | omega | (simp only [sizeAlloc, sizeDrew, sizeSet, sizePut] <;> omega) | fail) only [GS, TT_eq, TTl, Nat.reduceAdd, Nat.reduceMul, Nat.reduceSub, Nat.reduceDiv, Nat.reduceMod, Nat.reducePow, Nat.reduceEqDiff, ↓reduceIte, reduceCtorEq, Int.reduceToNat, Int.reduceAdd, Int.reduceSub, Int.reduceMul]
  have hM0 := ((Mod.refl [] w).alloc (.cells #[.int .i64 xa, .int .i64 xb, .int .i64 xc, .int .i64 xd, .slice pm mbs.length cm, .slice pt tags.length ct] 28)).alloc (.cells #[.int .i64 org] 3)
  have hA := heapAlloc (o' := .cells #[.int .i64 org] 3) (heapNew (w := w) (o := .cells #[.int .i64 xa, .int .i64 xb, .int .i64 xc, .int .i64 xd, .slice pm mbs.length cm, .slice pt tags.length ct] 28))
  have hB := heapNew (w := w.alloc (.cells #[.int .i64 xa, .int .i64 xb, .int .i64 xc, .int .i64 xd, .slice pm mbs.length cm, .slice pt tags.length ct] 28)) (o := .cells #[.int .i64 org] 3)
  rw [sizeAlloc] at hB
  generalize (w.alloc (.cells #[.int .i64 xa, .int .i64 xb, .int .i64 xc, .int .i64 xd, .slice pm mbs.length cm, .slice pt tags.length ct] 28)).alloc (.cells #[.int .i64 org] 3) = w1 at hM0 hA hB ⊢
  generalize hn : w.heap.size = n at *
  refine ⟨fok106, hIx (n + 1) _ hB _ (by omega) (hmr.mod hM0 (by simp)) (fun k w2 hk hko hM2 => .inl ⟨_, rfl, hold_ops okT (rs := [.tmp 4, .tmp 5, .tmp 6]) rfl ?_⟩) (fun hno w2 hM2 => .inl ⟨_, rfl, hold_ops okT (rs := [.tmp 4, .tmp 5, .tmp 6]) rfl ?_⟩)⟩
  rotate_left
  · simp (maxSteps := 1000000) (disch := first | omega | (simp only [sizeAlloc, sizeDrew, sizeSet, sizePut] <;> omega) | fail) only [GS, TT_eq, TTl, Nat.reduceAdd, Nat.reduceMul, Nat.reduceSub, Nat.reduceDiv, Nat.reduceMod, Nat.reducePow, Nat.reduceEqDiff, ↓reduceIte, reduceCtorEq, Int.reduceToNat, Int.reduceAdd, Int.reduceSub, Int.reduceMul]
    exact h0 (.inr hno) _ (hM0.trans hM2 (by simp))
  have hM02 := hM0.trans hM2 (by simp)
  have hA2 := hM2.get hA (by simp)
  have c2 := fun o => cellOf (o := o) hA2
  have hk0 : ¬ ((k : Nat) : Int) < 0 := by omega
  simp (maxSteps := 1000000) (disch := first | omega | (simp only [sizeAlloc, sizeDrew, sizeSet, sizePut] <;> omega) | fail) only [GS, TT_eq, TTl, Nat.reduceAdd, Nat.reduceMul, Nat.reduceSub, Nat.reduceDiv, Nat.reduceMod, Nat.reducePow, Nat.reduceEqDiff, ↓reduceIte, reduceCtorEq, Int.reduceToNat, Int.reduceAdd, Int.reduceSub, Int.reduceMul, c2, hk0]
  refine ⟨fok30, hCk _ (hrW _ hM02) _ fun w3 hM3 => .inl ⟨_, rfl, hold_ops okT (rs := [.tmp 4, .tmp 5, .tmp 6]) rfl ?_⟩⟩
  have hM03 := hM02.trans hM3 (by simp)
  cases M
  · simp only [Bool.false_eq_true, if_false]
    simp (maxSteps := 1000000) (disch := first | omega | (simp only [sizeAlloc, sizeDrew, sizeSet, sizePut] <;> omega) | fail) only [GS, TT_eq, TTl, Nat.reduceAdd, Nat.reduceMul, Nat.reduceSub, Nat.reduceDiv, Nat.reduceMod, Nat.reducePow, Nat.reduceEqDiff, ↓reduceIte, reduceCtorEq, Int.reduceToNat, Int.reduceAdd, Int.reduceSub, Int.reduceMul]
    exact h0 (.inl rfl) _ hM03
  simp only [if_true]
  have hlen := (hmay rfl).2.2.2.1
  have hk2 : k < tags.length := by omega
  have hA3 := hM3.get hA2 (by simp)
  have c3 := fun o => cellOf (o := o) hA3
  obtain ⟨b1, o1, c1, e1, _, g1⟩ := (hmr.mod hM03 (by simp)).at (by omega) (by omega)
  obtain ⟨b2, o2, c4, e2, _, g2⟩ := (htr.mod hM03 (by simp)).at (by omega) (by omega)
  have hfl := fun j hj => flat_get mbC 2 mbC_len mbs k hk j hj
  have f2 := g2 k _ (getS hk2)
  have hF := fun w' hm => h1 k hk hk2 w' rfl hko hm
  generalize tags[k] = tg at f2 hF
  generalize mbs[k] = m at hfl hF
  rw [Value.slice.injEq] at e1 e2
  obtain ⟨rfl, -, -⟩ := e1
  obtain ⟨rfl, -, -⟩ := e2
  have d1 : w3.cell? ⟨b1, o1 + k * 2 + 1, none⟩ = some (.string ⟨m.2.toArray⟩) := by rw [← g1 (k * 2 + 1) _ (hfl 1 (by omega))]; rfl
  simp (maxSteps := 1000000) (disch := first | omega | (simp only [sizeAlloc, sizeDrew, sizeSet, sizePut] <;> omega) | fail) only [GS, TT_eq, TTl, Nat.reduceAdd, Nat.reduceMul, Nat.reduceSub, Nat.reduceDiv, Nat.reduceMod, Nat.reducePow, Nat.reduceEqDiff, ↓reduceIte, reduceCtorEq, Int.reduceToNat, Int.reduceAdd, Int.reduceSub, Int.reduceMul, c3, d1, f2]
  exact ⟨by kernel_rfl, fun d => hF _ (hM03.drewN d)⟩
end Go.Proofs.YtpcilobbohokcaaGreat
