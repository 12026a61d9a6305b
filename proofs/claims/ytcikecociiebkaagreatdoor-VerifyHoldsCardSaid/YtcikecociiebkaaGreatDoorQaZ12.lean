/-
  (*verify.Verifier).Shows; chirographlaw27.stands (walks). chirographlaw27.Signed (walk). chirographlaw27.alive (walk). VerifyHolds (walk). Rows of strings, as arguments, as rows of texts.
-/
import Derived.Test.YtcikecociiebkaaGreatDoorQaZ11
import Derived.Test.YtcikecociiebkaaGreatDoorQaZ3
import Derived.Test.YtcikecociiebkaaGreatDoorQaRd
set_option linter.unusedSimpArgs false
set_option linter.unusedVariables false
set_option maxRecDepth 20000
namespace Go.Proofs.YtcikecociiebkaaGreatDoor
open Go Go.Wk Go.RowKit
attribute [local irreducible] go Hold
open Go.Lib
set_option maxRecDepth 20000 in
set_option maxHeartbeats 4000000 in
theorem stands_cps (sa : Value) (xs : List Tm) (t : Tm) (w : World) (hx : xs.length ≤ 9223372036854775807) (hxs : ∀ s ∈ xs, s.length ≤ maxLen) (ht : t.length ≤ maxLen) (ha : Rd w 1 sa xs.length (xs.map strV)) (R : Ending → World → Prop) (hR : ∀ w', Mod [] w w' → R (.returned (.bool (stdF xs t))) w') :
    Calls Tryz.prog 17 #[sa, .string ⟨t.toArray⟩] w R := by
  obtain ⟨a, ca, rfl⟩ := ha.slice
  refine calls_go 4000 okT Tryz.func17 rfl (rs := [.tmp 4]) rfl Tryz.ntmps17 (args := [.slice a xs.length ca, .string ⟨t.toArray⟩]) ?_
  simp (maxSteps := 1000000) (disch := first | omega | (simp only [sizeAlloc, sizeDrew, sizeSet, sizePut] <;> omega) | fail) only [GS, TT_eq, TTl, Nat.reduceAdd, Nat.reduceMul, Nat.reduceSub, Nat.reduceDiv, Nat.reduceMod, Nat.reducePow, Nat.reduceEqDiff, ↓reduceIte, reduceCtorEq, Int.reduceToNat, Int.reduceAdd, Int.reduceSub, Int.reduceMul]
  refine hold_loop okT (rs := [.tmp 4]) rfl [5] [4, 6, 7, 8, 9, 10, 11, 12, 13, 14, 15, 16, 17] (fun vs w' => ∃ k : Nat, k ≤ xs.length ∧ vs = [.int .i64 k] ∧ (xs.take k).any (fun s => hasS s t) = false ∧ Mod [] w w') (fun vs _ => match vs with | [.int _ i] => xs.length - i.toNat | _ => 0) (by kernel_rfl) ⟨0, by omega, rfl, rfl, Mod.refl _ _⟩ ?_
  rintro vs w1 J ⟨k, hk, rfl, hn, hM⟩
  by_cases hlt : k < xs.length
  · obtain ⟨b1, o1, c1, e1, _, g1⟩ := (ha.mod hM (by simp)).at (by omega) (by omega)
    have f1 := g1 k _ (getS hlt)
    rw [Value.slice.injEq] at e1
    obtain ⟨rfl, -, -⟩ := e1
    have htk := List.take_succ_eq_append_getElem hlt
    have hmem := List.getElem_mem hlt
    have hml := hxs _ hmem
    generalize xs[k] = z at f1 htk hmem hml
    simp (maxSteps := 1000000) (disch := first | omega | (simp only [sizeAlloc, sizeDrew, sizeSet, sizePut] <;> omega) | fail) only [GS, TT_eq, TTl, Nat.reduceAdd, Nat.reduceMul, Nat.reduceSub, Nat.reduceDiv, Nat.reduceMod, Nat.reducePow, Nat.reduceEqDiff, ↓reduceIte, reduceCtorEq, Int.reduceToNat, Int.reduceAdd, Int.reduceSub, Int.reduceMul, f1]
    refine ⟨fok23, tHas_cps z t hml ht _ _ fun w2 hM2 => .inl ⟨_, rfl, hold_ops okT (rs := [.tmp 4]) rfl ?_⟩⟩
    have hM02 := hM.trans hM2 (by simp)
    cases hh : hasS z t
    · simp (maxSteps := 1000000) (disch := first | omega | (simp only [sizeAlloc, sizeDrew, sizeSet, sizePut] <;> omega) | fail) only [GS, TT_eq, TTl, Nat.reduceAdd, Nat.reduceMul, Nat.reduceSub, Nat.reduceDiv, Nat.reduceMod, Nat.reducePow, Nat.reduceEqDiff, ↓reduceIte, reduceCtorEq, Int.reduceToNat, Int.reduceAdd, Int.reduceSub, Int.reduceMul]
      refine ⟨⟨k + 1, by omega, rfl, ?_, hM02⟩, by omega⟩
      rw [htk, List.any_append, hn]
      simp [hh]
    · have e : stdF xs t = true := by unfold stdF; rw [List.any_eq_true]; exact ⟨z, hmem, hh⟩
      rw [e] at hR
      simp (maxSteps := 1000000) (disch := first | omega | (simp only [sizeAlloc, sizeDrew, sizeSet, sizePut] <;> omega) | fail) only [GS, TT_eq, TTl, Nat.reduceAdd, Nat.reduceMul, Nat.reduceSub, Nat.reduceDiv, Nat.reduceMod, Nat.reducePow, Nat.reduceEqDiff, ↓reduceIte, reduceCtorEq, Int.reduceToNat, Int.reduceAdd, Int.reduceSub, Int.reduceMul]
      exact hR _ hM02
  · have e : k = xs.length := by omega
    subst e
    rw [List.take_length] at hn
    have e : stdF xs t = false := hn
    rw [e] at hR
    simp (maxSteps := 1000000) (disch := first | omega | (simp only [sizeAlloc, sizeDrew, sizeSet, sizePut] <;> omega) | fail) only [GS, TT_eq, TTl, Nat.reduceAdd, Nat.reduceMul, Nat.reduceSub, Nat.reduceDiv, Nat.reduceMod, Nat.reducePow, Nat.reduceEqDiff, ↓reduceIte, reduceCtorEq, Int.reduceToNat, Int.reduceAdd, Int.reduceSub, Int.reduceMul]
    exact hR _ hM
set_option maxRecDepth 20000 in
set_option maxHeartbeats 16000000 in
theorem vShows_cps (vp : Nat) (aud : Int) (ks : List Tm) (S : Tm) (hS : S.length ≤ maxLen) (w : World) (hv : VerAt w vp aud ks) (hkl : ks.length ≤ 1000000) (hks : ∀ k ∈ ks, k.length ≤ 1000000) (r : Rcp) (hr : vfyF ks aud S = .ok r) (k : Nat) (hk : k < r.mbs.length) (R : Ending → World → Prop)
    (hR : ∀ w', Mod [] w w' → R (.returned (.tuple #[.string ⟨r.mbs[k].2.toArray⟩, .bool true])) w') :
    Calls Tryz.prog 27 #[.pointer (some ⟨vp, 0, none⟩), .string ⟨S.toArray⟩, .agg #[.int .i64 r.tx.1, .int .i64 r.tx.2.1, .int .i64 r.tx.2.2], .int .i64 r.mbs[k].1] w R := by
  have hmay := (of_rc (vfyF_ok hr).1).2.1
  have hVf := fun w h => vVerify_cps vp aud ks S hS w h hkl hks
  rw [hr] at hVf
  have hin : ∀ w' sm st, Rd w' 2 sm r.mbs.length (r.mbs.flatMap mbC) → Rd w' 1 st r.tags.length (r.tags.map strV) → RcpIn w' r sm st := fun w' sm st => rcpIn_of hmay
  have hNm := fun sm st org w h => eNames_cps r sm st org w h
  obtain ⟨-, -, hmB, -, -⟩ := may_is hmay
  unfold mbB at hmB
  rw [Bool.and_eq_true] at hmB
  have huq := fun i hi h => mbs_uniq hmB.1 i k hi hk h
  have hno : ¬ (mayR r = false ∨ ∀ m ∈ r.mbs, m.1 ≠ r.mbs[k].1) := by
    rintro (h | h)
    · rw [hmay] at h; simp at h
    · exact h _ (List.getElem_mem hk) rfl
  have hR' : ∀ k' (hk' : k' < r.mbs.length) w', r.mbs[k'].1 = r.mbs[k].1 → Mod [] w w' → R (.returned (.tuple #[.string ⟨r.mbs[k'].2.toArray⟩, .bool true])) w' := fun k' hk' w' h hM => by
    have := huq k' hk' h
    subst this
    exact hR w' hM
  generalize hog : r.mbs[k].1 = org at *
  obtain ⟨⟨ra, rb, rc⟩, rau, mbs, tags⟩ := r
  unfold rcV rcC at hVf hNm
  simp only at hVf hNm hin hR' ⊢
  refine calls_go 4000 okT Tryz.func27 rfl (rs := [.tmp 8, .tmp 9]) rfl Tryz.ntmps27 (args := [.pointer (some ⟨vp, 0, none⟩), .string ⟨S.toArray⟩, .agg #[.int .i64 ra, .int .i64 rb, .int .i64 rc], .int .i64 org]) ?_
  simp (maxSteps := 1000000) (disch := first | omega | (simp only [sizeAlloc, sizeDrew, sizeSet, sizePut] <;> omega) | fail) only [GS, TT_eq, TTl, Nat.reduceAdd, Nat.reduceMul, Nat.reduceSub, Nat.reduceDiv, Nat.reduceMod, Nat.reducePow, Nat.reduceEqDiff, ↓reduceIte, reduceCtorEq, Int.reduceToNat, Int.reduceAdd, Int.reduceSub, Int.reduceMul]
  have hT := heapNew (w := w) (o := .cells #[.int .i64 ra, .int .i64 rb, .int .i64 rc] 38)
  have hM0 := (Mod.refl [] w).alloc (.cells #[.int .i64 ra, .int .i64 rb, .int .i64 rc] 38)
  generalize w.alloc (.cells #[.int .i64 ra, .int .i64 rb, .int .i64 rc] 38) = w1 at *
  generalize w.heap.size = n at *
  refine ⟨fok12, hVf _ (hv.mod hM0) _ (fun r' sm st w2 hr' hm ht hM2 => .inl ⟨_, rfl, hold_stop (s' := some 2) (hold_ops okT (rs := [.tmp 8, .tmp 9]) rfl ?_)⟩) (fun k c w' h => by cases h)⟩
  cases hr'
  simp only at hm ht ⊢
  have om := ownsRow_one hm
  have ot := ownsRow_one ht
  have hM02 := hM0.trans hM2 (by simp)
  have hT2 := hM2.get hT (by simp)
  have hsz2 := hM2.size
  simp (maxSteps := 1000000) (disch := first | omega | (simp only [sizeAlloc, sizeDrew, sizeSet, sizePut] <;> omega) | fail) only [GS, TT_eq, TTl, Nat.reduceAdd, Nat.reduceMul, Nat.reduceSub, Nat.reduceDiv, Nat.reduceMod, Nat.reducePow, Nat.reduceEqDiff, ↓reduceIte, reduceCtorEq, Int.reduceToNat, Int.reduceAdd, Int.reduceSub, Int.reduceMul, cellsL_one om, om, cellsL_one ot, ot]
  generalize hW_ : (((((((w2.alloc (.cells #[(.int .i64 0), (.int .i64 0), (.int .i64 0), (.int .i64 0), (.slice none 0 0), (.slice none 0 0)] 41)).setCell ⟨w2.heap.size, 0, none⟩ (.int .i64 ra)).setCell ⟨w2.heap.size, 1, none⟩ (.int .i64 rb)).setCell ⟨w2.heap.size, 2, none⟩ (.int .i64 rc)).setCell ⟨w2.heap.size, 3, none⟩ (.int .i64 rau)).setCell ⟨w2.heap.size, 4, none⟩ sm).setCell ⟨w2.heap.size, 5, none⟩ st) = w3
  obtain ⟨hX, hM3⟩ : w3.heap[w2.heap.size]? = some (.cells #[(.int .i64 ra), (.int .i64 rb), (.int .i64 rc), (.int .i64 rau), sm, st] 41 (0, 0)) ∧ Mod [] w2 w3 := by
    subst hW_
    exact ⟨st6z heapNew, modSet6z ((Mod.refl [] w2).alloc _) (.inr (Nat.le_refl _))⟩
  clear hW_
  generalize hq_q : w2.heap.size = q at *
  have hM03 := hM02.trans hM3 (by simp)
  have hT3 := hM3.get hT2 (by simp)
  have hm3 := ownsRow_mod hm hM3 (by simp)
  have ht3 := ownsRow_mod ht hM3 (by simp)
  have cx := fun o => cellOf (o := o) hX
  have ct := fun o => cellOf (o := o) hT3
  refine hold_stop (s' := none) ?_
  refine hold_code okT (rs := [.tmp 8, .tmp 9]) rfl ?_
  simp (maxSteps := 1000000) (disch := first | omega | (simp only [sizeAlloc, sizeDrew, sizeSet, sizePut] <;> omega) | fail) only [GS, TT_eq, TTl, Nat.reduceAdd, Nat.reduceMul, Nat.reduceSub, Nat.reduceDiv, Nat.reduceMod, Nat.reducePow, Nat.reduceEqDiff, ↓reduceIte, reduceCtorEq, Int.reduceToNat, Int.reduceAdd, Int.reduceSub, Int.reduceMul, cx, ct, eq_self]
  refine ⟨fok73, hNm sm st org w3 (hin _ _ _ (Rd.own hm3) (Rd.own ht3)) _ (fun k' hk' _ w4 _ ho hM4 => .inl ⟨_, rfl, hold_ops okT (rs := [.tmp 8, .tmp 9]) rfl ?_⟩) (fun h => absurd h hno)⟩
  simp (maxSteps := 1000000) (disch := first | omega | (simp only [sizeAlloc, sizeDrew, sizeSet, sizePut] <;> omega) | fail) only [GS, TT_eq, TTl, Nat.reduceAdd, Nat.reduceMul, Nat.reduceSub, Nat.reduceDiv, Nat.reduceMod, Nat.reducePow, Nat.reduceEqDiff, ↓reduceIte, reduceCtorEq, Int.reduceToNat, Int.reduceAdd, Int.reduceSub, Int.reduceMul]
  exact hR' k' hk' _ ho (hM03.trans hM4 (by simp))
end Go.Proofs.YtcikecociiebkaaGreatDoor
set_option linter.unusedSimpArgs false
set_option linter.unusedVariables false
set_option maxRecDepth 20000
namespace Go.Proofs.YtcikecociiebkaaGreatDoor
open Go Go.Wk Go.RowKit
attribute [local irreducible] go Hold
open Go.Lib
def sgnT (r : Rcp) : List Tm := r.mbs.map fun m => (tagS r.tx r.aud r.mbs m.1).1
/-- A receipt with its ballots' tags. -/
def sgnR (r : Rcp) : Rcp := ⟨r.tx, r.aud, r.mbs, sgnT r⟩
theorem st1v {w : World} {p t : Nat} {fr : Nat × Nat} {a0 a1 a2 a3 a4 a5 x : Value} (h : w.heap[p]? = some (.cells #[a0, a1, a2, a3, a4, a5] t fr)) : (w.setCell ⟨p, 5, none⟩ x).heap[p]? = some (.cells #[a0, a1, a2, a3, a4, x] t fr) := by
  rw [heapSet h]
  rfl
set_option maxRecDepth 20000 in
set_option maxHeartbeats 32000000 in
theorem vSigned_cps (s : Nat) (r : Rcp) (sm st : Value) (w : World) (hs : isSui w s) (hg : KG w) (hl : r.mbs.length ≤ 20) (hd : ∀ m ∈ r.mbs, m.2.length ≤ maxLen) (ha : Rd w 2 sm r.mbs.length (r.mbs.flatMap mbC)) (ost : st.oneCell' = true) (R : Ending → World → Prop)
    (hR : ∀ sv w', w'.ownsRow w.heap.size 9 1 sv r.mbs.length ((sgnT r).map strV) → Mod [] w w' → R (.returned (rcV (sgnR r) sm sv)) w') :
    Calls Tryz.prog 26 #[.pointer (some ⟨s, 0, none⟩), rcV r sm st] w R := by
  have hTg := fun ms org w h => bTag_cps s r.tx r.aud ms r.mbs org w (by omega) hd h
  have hTl := fun org => tag_len13 r.tx r.aud r.mbs org
  have hsT : sgnT r = r.mbs.map fun m => (tagS r.tx r.aud r.mbs m.1).1 := rfl
  have osm : sm.oneCell' = true := by obtain ⟨a, c, e⟩ := ha.slice; rw [e]; rfl
  generalize tagS r.tx r.aud r.mbs = tg at *
  unfold sgnR at hR
  generalize hsg : sgnT r = sg at *
  obtain ⟨⟨ra, rb, rc⟩, rau, mbs, tags⟩ := r
  unfold rcV rcC at hR ⊢
  unfold balV at hTg
  simp only at hTg hR hsT ha hd hl ⊢
  clear hsg
  refine calls_go 4000 okT Tryz.func26 rfl (rs := [.cell 4 41]) rfl Tryz.ntmps26 (args := [.pointer (some ⟨s, 0, none⟩), .agg #[.int .i64 ra, .int .i64 rb, .int .i64 rc, .int .i64 rau, sm, st]]) ?_
  simp (maxSteps := 1000000) (disch := first | omega | (simp only [sizeAlloc, sizeDrew, sizeSet, sizePut] <;> omega) | fail) only [GS, TT_eq, TTl, Nat.reduceAdd, Nat.reduceMul, Nat.reduceSub, Nat.reduceDiv, Nat.reduceMod, Nat.reducePow, Nat.reduceEqDiff, ↓reduceIte, reduceCtorEq, Int.reduceToNat, Int.reduceAdd, Int.reduceSub, Int.reduceMul]
  generalize hW : (w.alloc (.cells #[.int .i64 ra, .int .i64 rb, .int .i64 rc, .int .i64 rau, sm, st] 41)) = w1
  have hA1 : w1.heap[w.heap.size]? = some (.cells #[.int .i64 ra, .int .i64 rb, .int .i64 rc, .int .i64 rau, sm, st] 41 (0, 0)) := by subst hW; exact heapNew
  have hM1 : Mod [] w w1 := by subst hW; exact (Mod.refl [] w).alloc _
  have hs1 : w1.heap.size = w.heap.size + 1 := by subst hW; exact sizeAlloc ..
  clear hW
  generalize hn : w.heap.size = n at *
  have hA2 := heapAlloc (o' := .cells #[.int .i64 0, .int .i64 0, .int .i64 0, .int .i64 0, .slice none 0 0, .slice none 0 0] 41) hA1
  have hZ2 := heapNew (w := w1) (o := .cells #[.int .i64 0, .int .i64 0, .int .i64 0, .int .i64 0, .slice none 0 0, .slice none 0 0] 41)
  rw [hs1] at hZ2
  have hM2 := hM1.alloc (.cells #[.int .i64 0, .int .i64 0, .int .i64 0, .int .i64 0, .slice none 0 0, .slice none 0 0] 41)
  generalize w1.alloc (.cells #[.int .i64 0, .int .i64 0, .int .i64 0, .int .i64 0, .slice none 0 0, .slice none 0 0] 41) = w2 at *
  have hA3 := st1v (x := .slice none 0 0) hA2
  have hZ3 := heapSetNe (b := n) (j := 5) (u := .slice none 0 0) hZ2 (by omega)
  have hM3 : Mod [] w (w2.setCell ⟨n, 5, none⟩ (.slice none 0 0)) := hM2.set (p := ⟨n, 5, none⟩) (.inr (by simp only; omega)) _
  generalize w2.setCell ⟨n, 5, none⟩ (.slice none 0 0) = w3 at *
  clear hA1 hM1 hs1 hA2 hZ2 hM2
  refine hold_loop okT (rs := [.cell 4 41]) rfl [5] [6, 7, 9, 10, 11, 12, 13, 14, 15, 16, 17, 18, 19, 20, 21, 22, 23, 24, 25, 26, 27, 28, 29, 30, 31, 32, 33, 34, 35, 36, 37, 38, 39, 40, 41, 42, 43] (fun vs w' => ∃ (k : Nat) (sv : Value), k ≤ mbs.length ∧ vs = [.int .i64 k] ∧ w'.heap[n]? = some (.cells #[.int .i64 ra, .int .i64 rb, .int .i64 rc, .int .i64 rau, sm, sv] 41 (0, 0)) ∧ w'.heap[n + 1]? = some (.cells #[.int .i64 0, .int .i64 0, .int .i64 0, .int .i64 0, .slice none 0 0, .slice none 0 0] 41 (0, 0)) ∧ w'.ownsRow n 9 1 sv k (((mbs.take k).map fun m => (tg m.1).1).map strV) ∧ Mod [] w w') (fun vs _ => match vs with | [.int _ i] => mbs.length - i.toNat | _ => 0) (by kernel_rfl) ⟨0, _, by omega, rfl, hA3, hZ3, World.ownsRow_nil _ _ _ _, hM3⟩ ?_
  clear hA3 hZ3 hM3
  rintro vs w4 J ⟨k, sv, hk, rfl, hA, hZ, hown, hM⟩
  have osv := ownsRow_one hown
  obtain ⟨pm, cm, rfl⟩ := ha.slice
  obtain ⟨ps, cs, rfl⟩ := (Rd.own hown).slice
  have ca := fun o => cellOf (o := o) hA
  by_cases hlt : k < mbs.length
  · obtain ⟨b1, o1, c1, e1, _, g1⟩ := (ha.mod hM (by simp)).at (by omega) (by omega)
    have hfl := fun j hj => flat_get mbC 2 mbC_len mbs k hlt j hj
    have htk := List.take_succ_eq_append_getElem hlt
    rw [Value.slice.injEq] at e1
    obtain ⟨rfl, -, -⟩ := e1
    generalize mbs[k] = m at hfl htk
    have d0 : w4.cell? ⟨b1, o1 + k * 2, none⟩ = some (.int .i64 m.1) := by rw [← g1 (k * 2) _ (hfl 0 (by omega))]
    simp (maxSteps := 1000000) (disch := first | omega | (simp only [sizeAlloc, sizeDrew, sizeSet, sizePut] <;> omega) | fail) only [GS, TT_eq, TTl, Nat.reduceAdd, Nat.reduceMul, Nat.reduceSub, Nat.reduceDiv, Nat.reduceMod, Nat.reducePow, Nat.reduceEqDiff, ↓reduceIte, reduceCtorEq, Int.reduceToNat, Int.reduceAdd, Int.reduceSub, Int.reduceMul, ca]
    refine hold_draw okT (rs := [.cell 4 41]) rfl [0, 0, 2, 0, 8, 0, 32, 0, 128, 0, 896, 1920, 3968, 8190, 16383, 32767, 65535, 65535, 131071, 524287] [0, 1, 2, 3, 4, 5, 6, 7, 8, 9, 10, 11, 12, 13, 14, 15, 16, 17, 18, 19] (by kernel_rfl) (by kernel_rfl) ?_
    have hM45 := (Mod.refl [] w4).drewN 1
    generalize w4.drewN 1 = w5 at *
    have hA5 := hM45.get hA (by simp)
    have d5 := cellMS d0 hM45 (by simp)
    have ca5 := fun o => cellOf (o := o) hA5
    have hM05 := hM.trans hM45 (by simp)
    simp (maxSteps := 1000000) (disch := first | omega | (simp only [sizeAlloc, sizeDrew, sizeSet, sizePut] <;> omega) | fail) only [GS, TT_eq, TTl, Nat.reduceAdd, Nat.reduceMul, Nat.reduceSub, Nat.reduceDiv, Nat.reduceMod, Nat.reducePow, Nat.reduceEqDiff, ↓reduceIte, reduceCtorEq, Int.reduceToNat, Int.reduceAdd, Int.reduceSub, Int.reduceMul, ca5, d5]
    refine ⟨fok16, hTg _ m.1 _ (ha.mod hM05 (by simp)) (hs.mod hM05) (hg.mod hM05 (by simp)) _ fun w6 hM6 => .inl ⟨_, rfl, ?_⟩⟩
    have hM46 := hM45.trans hM6 (by simp)
    have hM06 := hM.trans hM46 (by simp)
    have hA6 := hM6.get hA5 (by simp)
    have hZ6 := hM46.get hZ (by simp)
    have d6 := cellMS d5 hM6 (by simp)
    have ca6 := fun o => cellOf (o := o) hA6
    have hown6 := ownsRow_mod hown hM46 (by simp)
    first | refine hold_dops okT (rs := [.cell 4 41]) rfl ?_ | refine ⟨(by repeat' (first | exact ca6 _ | exact d6 | apply And.intro)), hold_dops okT (rs := [.cell 4 41]) rfl ?_⟩
    unfold stV
    simp (maxSteps := 1000000) (disch := first | omega | (simp only [sizeAlloc, sizeDrew, sizeSet, sizePut] <;> omega) | fail) only [GS, TT_eq, TTl, Nat.reduceAdd, Nat.reduceMul, Nat.reduceSub, Nat.reduceDiv, Nat.reduceMod, Nat.reducePow, Nat.reduceEqDiff, ↓reduceIte, reduceCtorEq, Int.reduceToNat, Int.reduceAdd, Int.reduceSub, Int.reduceMul, ca6]
    refine hold_append1 okT rfl rfl rfl rfl rfl n hown6 rfl rfl (u := .string ⟨(tg m.1).1.toArray⟩) rfl (by simp only; omega) (by unfold maxLen; omega) (by have := hM06.size; omega) fun v' w7 hown7 hM7 _ => hold_ops okT (rs := [.cell 4 41]) rfl ?_
    have hob : ∀ y ∈ (Value.slice ps k cs).ownBlock.toList, n ≤ y := fun y hy => (hown6.lt y (by simpa using hy)).1
    have hne : ∀ y ∈ (Value.slice ps k cs).ownBlock.toList, ∀ (c : Array Value) (z : Nat × Nat), w6.heap[y]? ≠ some (.cells c 41 z) := fun y hy c z h => own_ne hown6 h (by decide) y (by simpa using hy) rfl
    have hA7 := hM7.get hA6 (fun h => hne _ h _ _ hA6)
    have hZ7 := hM7.get hZ6 (fun h => hne _ h _ _ hZ6)
    have hM07 := hM06.trans hM7 (fun y hy => .inr (by have := hob y hy; omega))
    have ca7 := fun o => cellOf (o := o) hA7
    have xa7 := fun o => frozenOf (o := o) hA7
    have ov7 := ownsRow_one hown7
    simp (maxSteps := 1000000) (disch := first | omega | (simp only [sizeAlloc, sizeDrew, sizeSet, sizePut] <;> omega) | fail) only [GS, TT_eq, TTl, Nat.reduceAdd, Nat.reduceMul, Nat.reduceSub, Nat.reduceDiv, Nat.reduceMod, Nat.reducePow, Nat.reduceEqDiff, ↓reduceIte, reduceCtorEq, Int.reduceToNat, Int.reduceAdd, Int.reduceSub, Int.reduceMul, ca7, xa7, cellsL_one ov7, ov7]
    refine ⟨⟨k + 1, v', by omega, rfl, st1v hA7, heapSetNe (b := n) (j := 5) (u := v') hZ7 (by omega), ?_, hM07.set (p := ⟨n, 5, none⟩) (.inr (by simp only; omega)) _⟩, by omega⟩
    rw [htk, List.map_append, List.map_append]
    exact ownsRow_mod' hown7 ((Mod.refl [n] w7).set (p := ⟨n, 5, none⟩) (.inl (by simp)) _) (fun g hg' h => own_ne hown7 hA7 (by decide) g hg' (by simpa using h))
  · have e : k = mbs.length := by omega
    subst e
    rw [List.take_length, ← hsT] at hown
    have ca := fun o => cellOf (o := o) hA
    have cz := fun o => cellOf (o := o) hZ
    have xz := fun o => frozenOf (o := o) hZ
    simp (maxSteps := 1000000) (disch := first | omega | (simp only [sizeAlloc, sizeDrew, sizeSet, sizePut] <;> omega) | fail) only [GS, TT_eq, TTl, Nat.reduceAdd, Nat.reduceMul, Nat.reduceSub, Nat.reduceDiv, Nat.reduceMod, Nat.reducePow, Nat.reduceEqDiff, ↓reduceIte, reduceCtorEq, Int.reduceToNat, Int.reduceAdd, Int.reduceSub, Int.reduceMul, ca, cz, xz]
    have hMS := modSet6z (F := [n + 1]) (Mod.refl [n + 1] w4) (p := n + 1) (.inl (by simp)) (x0 := .int .i64 ra) (x1 := .int .i64 rb) (x2 := .int .i64 rc) (x3 := .int .i64 rau) (x4 := .slice pm mbs.length cm) (x5 := .slice ps mbs.length cs)
    refine load6v (st6z hZ) ?_
    exact hR _ _ (ownsRow_mod' hown hMS (fun g hg' h => own_ne hown hZ (by decide) g hg' (by simpa using h))) (modSet6z hM (.inr (by omega)))
end Go.Proofs.YtcikecociiebkaaGreatDoor
set_option linter.unusedSimpArgs false
set_option linter.unusedVariables false
set_option maxRecDepth 20000
namespace Go.Proofs.YtcikecociiebkaaGreatDoor
open Go Go.Wk Go.RowKit
attribute [local irreducible] go Hold
open Go.Lib
def vM1 : List Mb := [(1, [100, 0])]
def vM5 : List Mb := [(5, [100, 0])]
def vRa : Rcp := ⟨(0, 1, 1), 2, vM1, []⟩
def vRb : Rcp := ⟨(0, 1, 1), 0, vM1, []⟩
def vRc : Rcp := ⟨(0, 1, 1), 2, vM5, []⟩
def vA : Tm := (encR (sgnR vRa)).1
def vB : Tm := (encR (sgnR vRb)).1
def vC : Tm := (encR (sgnR vRc)).1
theorem vEA : encR (sgnR vRa) = (vA, 0) := eta2 (by decide +kernel)
theorem vEB : encR (sgnR vRb) = (vB, 0) := eta2 (by decide +kernel)
theorem vEC : encR (sgnR vRc) = (vC, 0) := eta2 (by decide +kernel)
theorem vVA : vfyF (kysF 2 3) 2 vA = .ok (sgnR vRa) := by
  unfold vfyF
  rw [(rc_back vEA).1]
  simp only
  rw [if_neg (by decide), badF_of (fun k hk => by
    have : k = 0 := by have : (sgnR vRa).mbs.length = 1 := rfl; omega
    subst this
    decide +kernel)]
theorem vVB : vfyF (kysF 2 3) 2 vB = .error (0, 270) := by
  unfold vfyF
  rw [(rc_back vEB).1]
  simp only
  rw [if_pos (by decide)]
theorem vVC : vfyF (kysF 2 3) 2 vC = .error (0, 3) := by
  unfold vfyF
  rw [(rc_back vEC).1]
  have h3 : wrgK (kysF 2 3) (sgnR vRc) 0 = 3 := by decide +kernel
  simp only
  rw [if_neg (by decide), badF_at (k := 0) (fun j hj => by omega) (by rw [h3]; decide) (by decide)]
  simp only
  rw [h3]
theorem encR_len (r : Rcp) : (encR r).1.length ≤ 16384 := by
  unfold encR
  split
  · split
    · rename_i t h
      unfold encP at h
      split at h
      · cases h
        exact made_len _ _
      · cases h
    · simp
  · simp
theorem vAl : vA.length ≤ maxLen := by have := encR_len (sgnR vRa); unfold vA maxLen; omega
theorem vBl : vB.length ≤ maxLen := by have := encR_len (sgnR vRb); unfold vB maxLen; omega
theorem vCl : vC.length ≤ maxLen := by have := encR_len (sgnR vRc); unfold vC maxLen; omega
theorem kys_sz {aud : Int} {n : Nat} : ∀ k ∈ kysF aud n, k.length ≤ 1000000 := fun k hk => by
  unfold kysF at hk
  obtain ⟨j, _, rfl⟩ := List.mem_map.1 hk
  exact atomS_len _
theorem kys_kd {aud : Int} {n : Nat} (ha : 0 ≤ aud ∧ aud < 8) (hn : n ≤ 8) : ∀ k ∈ kysF aud n, k.length ≤ maxLen ∧ kindS k ≠ 0 := fun k hk => by
  have h1 := kys_sz k hk
  unfold kysF at hk
  obtain ⟨j, hj, rfl⟩ := List.mem_map.1 hk
  rw [List.mem_range] at hj
  refine ⟨by unfold maxLen; omega, ?_⟩
  rw [ky_kind ha (by omega)]
  omega
theorem st1w {w : World} {p t : Nat} {fr : Nat × Nat} {a0 a1 a2 a3 a4 a5 x : Value} (h : w.heap[p]? = some (.cells #[a0, a1, a2, a3, a4, a5] t fr)) : (w.setCell ⟨p, 3, none⟩ x).heap[p]? = some (.cells #[a0, a1, a2, x, a4, a5] t fr) := by
  rw [heapSet h]
  rfl
theorem st1x {w : World} {p t : Nat} {fr : Nat × Nat} {a0 a1 a2 a3 a4 a5 x : Value} (h : w.heap[p]? = some (.cells #[a0, a1, a2, a3, a4, a5] t fr)) : (w.setCell ⟨p, 4, none⟩ x).heap[p]? = some (.cells #[a0, a1, a2, a3, x, a5] t fr) := by
  rw [heapSet h]
  rfl
set_option maxRecDepth 20000 in
set_option maxHeartbeats 64000000 in
theorem alive27_cps (w : World) (hg : KG w) (R : Ending → World → Prop) (hR : ∀ w', Mod [] w w' → R (.returned (.bool true)) w') :
    Calls Tryz.prog 6 #[] w R := by
  refine calls_go 4000 okT Tryz.func6 rfl (rs := [.tmp 0]) rfl Tryz.ntmps6 (args := []) ?_
  have hks := @kys_sz 2 3
  have hkk := @kys_kd 2 3 (by omega) (by omega)
  have hkn : (kysF 2 3).length = 3 := kys_len 2 3
  have hVA := fun vp w h => vVerify_cps vp 2 (kysF 2 3) vA vAl w h (by rw [hkn]; omega) hks
  have hVB := fun vp w h => vVerify_cps vp 2 (kysF 2 3) vB vBl w h (by rw [hkn]; omega) hks
  have hVC := fun vp w h => vVerify_cps vp 2 (kysF 2 3) vC vCl w h (by rw [hkn]; omega) hks
  have hSh := fun vp w h => vShows_cps vp 2 (kysF 2 3) vA vAl w h (by rw [hkn]; omega) hks (sgnR vRa) vVA 0 (by decide)
  rw [vVA] at hVA
  rw [vVB] at hVB
  rw [vVC] at hVC
  have hKy := fun s w h1 h2 => vKeys_cps s 2 3 (by omega) (by omega) w h1 h2
  have hSa := fun s sm w h1 h2 => vSigned_cps s vRa sm (.slice none 0 0) w h1 h2 (by decide) (by decide)
  have hSb := fun s sm w h1 h2 => vSigned_cps s vRb sm (.slice none 0 0) w h1 h2 (by decide) (by decide)
  have hSc := fun s sm w h1 h2 => vSigned_cps s vRc sm (.slice none 0 0) w h1 h2 (by decide) (by decide)
  have hEa := fun sm st w h => eEncode_cps (sgnR vRa) sm st w h
  have hEb := fun sm st w h => eEncode_cps (sgnR vRb) sm st w h
  have hEc := fun sm st w h => eEncode_cps (sgnR vRc) sm st w h
  rw [vEA] at hEa
  rw [vEB] at hEb
  rw [vEC] at hEc
  have hiA := fun w sm st => @rcpIn_of w (sgnR vRa) sm st (rc_back vEA).2.1
  have hiB := fun w sm st => @rcpIn_of w (sgnR vRb) sm st (rc_back vEB).2.1
  have hiC := fun w sm st => @rcpIn_of w (sgnR vRc) sm st (rc_back vEC).2.1
  have hlA : (sgnT vRa).length = 1 := rfl
  have hlB : (sgnT vRb).length = 1 := rfl
  have hlC : (sgnT vRc).length = 1 := rfl
  generalize kysF 2 3 = ks at *
  generalize vA = A at *
  generalize vB = B at *
  generalize vC = C at *
  unfold rcV rcC at hSa hSb hSc hEa hEb hEc hVA hVB hVC
  unfold sgnR at hSa hSb hSc hEa hEb hEc hSh hiA hiB hiC hVA
  unfold stV at hEa hEb hEc
  generalize sgnT vRa = tA at *
  generalize sgnT vRb = tB at *
  generalize sgnT vRc = tC at *
  unfold vRa at hSa hEa hSh hiA hVA
  unfold vRb at hSb hEb hiB
  unfold vRc at hSc hEc hiC
  simp only at hSa hSb hSc hEa hEb hEc hSh hiA hiB hiC
  rw [show vM1[0].1 = 1 from rfl, show vM1[0].2 = [100, 0] from rfl] at hSh
  simp (maxSteps := 1000000) (disch := first | omega | (simp only [sizeAlloc, sizeDrew, sizeSet, sizePut] <;> omega) | fail) only [GS, TT_eq, TTl, Nat.reduceAdd, Nat.reduceMul, Nat.reduceSub, Nat.reduceDiv, Nat.reduceMod, Nat.reducePow, Nat.reduceEqDiff, ↓reduceIte, reduceCtorEq, Int.reduceToNat, Int.reduceAdd, Int.reduceSub, Int.reduceMul]
  refine ⟨fok7, sNew_cps [] w _ fun s u1 hs hM0 => .inl ⟨_, rfl, hold_ops okT (rs := [.tmp 0]) rfl ?_⟩⟩
  have hg1 := hg.mod hM0 (by simp)
  simp (maxSteps := 1000000) (disch := first | omega | (simp only [sizeAlloc, sizeDrew, sizeSet, sizePut] <;> omega) | fail) only [GS, TT_eq, TTl, Nat.reduceAdd, Nat.reduceMul, Nat.reduceSub, Nat.reduceDiv, Nat.reduceMod, Nat.reducePow, Nat.reduceEqDiff, ↓reduceIte, reduceCtorEq, Int.reduceToNat, Int.reduceAdd, Int.reduceSub, Int.reduceMul]
  refine ⟨fok8, hKy s _ hs hg1 _ fun ka u2 hka hM2 => .inl ⟨_, rfl, hold_ops okT (rs := [.tmp 0]) rfl ?_⟩⟩
  have hrk := Rd.own hka
  have oka := ownsRow_one hka
  have hM02 := hM0.trans hM2 (by simp)
  have hg2 := hg1.mod hM2 (by simp)
  have hs2 := hs.mod hM2
  simp (maxSteps := 1000000) (disch := first | omega | (simp only [sizeAlloc, sizeDrew, sizeSet, sizePut] <;> omega) | fail) only [GS, TT_eq, TTl, Nat.reduceAdd, Nat.reduceMul, Nat.reduceSub, Nat.reduceDiv, Nat.reduceMod, Nat.reducePow, Nat.reduceEqDiff, ↓reduceIte, reduceCtorEq, Int.reduceToNat, Int.reduceAdd, Int.reduceSub, Int.reduceMul, cellsL_one oka, oka]
  refine ⟨fok9, vNew_cps 2 ks ka _ (by omega) (by omega) hkk (by rw [hkn]; exact hrk) _ fun vp wv hv hM3 => .inl ⟨_, rfl, hold_stop (s' := some 7) (hold_ops okT (rs := [.tmp 0]) rfl ?_)⟩⟩
  have hM03 := hM02.trans hM3 (by simp)
  have hg := hg2.mod hM3 (by simp)
  have hs := hs2.mod hM3
  have hgl := hg.lt
  clear hka hrk oka hM02 hg2 hs2 hM2 hM0 hg1
  simp (maxSteps := 1000000) (disch := first | omega | (simp only [sizeAlloc, sizeDrew, sizeSet, sizePut] <;> omega) | fail) only [GS, TT_eq, TTl, Nat.reduceAdd, Nat.reduceMul, Nat.reduceSub, Nat.reduceDiv, Nat.reduceMod, Nat.reducePow, Nat.reduceEqDiff, ↓reduceIte, reduceCtorEq, Int.reduceToNat, Int.reduceAdd, Int.reduceSub, Int.reduceMul]
  have hP := heapNew (w := wv) (o := .cells #[.int .i64 1, .string ⟨#[100, 0]⟩] 48)
  have hMv := (Mod.refl [] wv).alloc (.cells #[.int .i64 1, .string ⟨#[100, 0]⟩] 48)
  have hz3 : (wv.alloc (.cells #[.int .i64 1, .string ⟨#[100, 0]⟩] 48)).heap.size = wv.heap.size + 1 := sizeAlloc ..
  generalize wv.alloc (.cells #[.int .i64 1, .string ⟨#[100, 0]⟩] 48) = u3 at *
  rw [← hz3]
  generalize hW_ : (((((((u3.alloc (.cells #[(.int .i64 0), (.int .i64 0), (.int .i64 0), (.int .i64 0), (.slice none 0 0), (.slice none 0 0)] 41)).setCell ⟨u3.heap.size, 0, none⟩ (.int .i64 0)).setCell ⟨u3.heap.size, 1, none⟩ (.int .i64 1)).setCell ⟨u3.heap.size, 2, none⟩ (.int .i64 1)).setCell ⟨u3.heap.size, 3, none⟩ (.int .i64 2)).setCell ⟨u3.heap.size, 4, none⟩ (.slice (some ⟨wv.heap.size, 0, none⟩) 1 1)).setCell ⟨u3.heap.size, 5, none⟩ (.slice none 0 0)) = u4
  obtain ⟨hQ, hM_⟩ : u4.heap[u3.heap.size]? = some (.cells #[(.int .i64 0), (.int .i64 1), (.int .i64 1), (.int .i64 2), (.slice (some ⟨wv.heap.size, 0, none⟩) 1 1), (.slice none 0 0)] 41 (0, 0)) ∧ Mod [] u3 u4 := by
    subst hW_
    exact ⟨st6z heapNew, modSet6z ((Mod.refl [] u3).alloc _) (.inr (Nat.le_refl _))⟩
  clear hW_
  generalize hq_q : u3.heap.size = q at *
  replace hP := hM_.get hP (by simp)
  replace hMv := hMv.trans hM_ (by simp)
  generalize hp_ : wv.heap.size = p1 at *
  clear hM_
  refine hold_stop (s' := some 9) ?_
  refine hold_code okT (rs := [.tmp 0]) rfl ?_
  have cQ := fun o => cellOf (o := o) hQ
  have xQ := fun o => frozenOf (o := o) hQ
  simp (maxSteps := 1000000) (disch := first | omega | (simp only [sizeAlloc, sizeDrew, sizeSet, sizePut] <;> omega) | fail) only [GS, TT_eq, TTl, Nat.reduceAdd, Nat.reduceMul, Nat.reduceSub, Nat.reduceDiv, Nat.reduceMod, Nat.reducePow, Nat.reduceEqDiff, ↓reduceIte, reduceCtorEq, Int.reduceToNat, Int.reduceAdd, Int.reduceSub, Int.reduceMul, cQ]
  have hpq : q = p1 + 1 := by omega
  have hr_ := rdBlk (n := 1) (size := 2) (xs := vM1.flatMap mbC) hP rfl
  refine ⟨fok26, hSa s _ _ (hs.mod hMv) (hg.mod hMv (by simp)) hr_ rfl _ fun sv v11 hsv hM_ => .inl ⟨_, rfl, hold_ops okT (rs := [.tmp 0]) rfl ?_⟩⟩
  clear cQ xQ
  replace hP := hM_.get hP (by simp)
  replace hQ := hM_.get hQ (by simp)
  replace hMv := hMv.trans hM_ (by simp)
  replace hr_ := hr_.mod hM_ (by simp)
  have osv := ownsRow_one hsv
  clear hM_
  simp (maxSteps := 1000000) (disch := first | omega | (simp only [sizeAlloc, sizeDrew, sizeSet, sizePut] <;> omega) | fail) only [GS, TT_eq, TTl, Nat.reduceAdd, Nat.reduceMul, Nat.reduceSub, Nat.reduceDiv, Nat.reduceMod, Nat.reducePow, Nat.reduceEqDiff, ↓reduceIte, reduceCtorEq, Int.reduceToNat, Int.reduceAdd, Int.reduceSub, Int.reduceMul, cellsL_one osv, osv]
  refine ⟨fok25, hEa _ _ _ (hiA _ _ _ hr_ (by rw [hlA]; exact Rd.own hsv)) _ fun v12 hM_ => .inl ⟨_, rfl, hold_ops okT (rs := [.tmp 0]) rfl ?_⟩⟩
  replace hP := hM_.get hP (by simp)
  replace hQ := hM_.get hQ (by simp)
  replace hMv := hMv.trans hM_ (by simp)
  clear hM_ hr_ hsv osv
  have cQ := fun o => cellOf (o := o) hQ
  have xQ := fun o => frozenOf (o := o) hQ
  simp (maxSteps := 1000000) (disch := first | omega | (simp only [sizeAlloc, sizeDrew, sizeSet, sizePut] <;> omega) | fail) only [GS, TT_eq, TTl, Nat.reduceAdd, Nat.reduceMul, Nat.reduceSub, Nat.reduceDiv, Nat.reduceMod, Nat.reducePow, Nat.reduceEqDiff, ↓reduceIte, reduceCtorEq, Int.reduceToNat, Int.reduceAdd, Int.reduceSub, Int.reduceMul, cQ, xQ]
  replace hQ := st1w (x := .int .i64 0) hQ
  replace hP := heapSetNe (b := q) (j := 3) (u := .int .i64 0) hP (by omega)
  replace hMv := hMv.set (p := ⟨q, 3, none⟩) (.inr (by simp only; omega)) (.int .i64 0)
  clear cQ xQ
  generalize v12.setCell ⟨q, 3, none⟩ (.int .i64 0) = v13 at *
  refine hold_stop (s' := some 11) ?_
  refine hold_code okT (rs := [.tmp 0]) rfl ?_
  have cQ := fun o => cellOf (o := o) hQ
  have xQ := fun o => frozenOf (o := o) hQ
  simp (maxSteps := 1000000) (disch := first | omega | (simp only [sizeAlloc, sizeDrew, sizeSet, sizePut] <;> omega) | fail) only [GS, TT_eq, TTl, Nat.reduceAdd, Nat.reduceMul, Nat.reduceSub, Nat.reduceDiv, Nat.reduceMod, Nat.reducePow, Nat.reduceEqDiff, ↓reduceIte, reduceCtorEq, Int.reduceToNat, Int.reduceAdd, Int.reduceSub, Int.reduceMul, cQ]
  have hr_ := rdBlk (n := 1) (size := 2) (xs := vM1.flatMap mbC) hP rfl
  refine ⟨fok26, hSb s _ _ (hs.mod hMv) (hg.mod hMv (by simp)) hr_ rfl _ fun sv v14 hsv hM_ => .inl ⟨_, rfl, hold_ops okT (rs := [.tmp 0]) rfl ?_⟩⟩
  clear cQ xQ
  replace hP := hM_.get hP (by simp)
  replace hQ := hM_.get hQ (by simp)
  replace hMv := hMv.trans hM_ (by simp)
  replace hr_ := hr_.mod hM_ (by simp)
  have osv := ownsRow_one hsv
  clear hM_
  simp (maxSteps := 1000000) (disch := first | omega | (simp only [sizeAlloc, sizeDrew, sizeSet, sizePut] <;> omega) | fail) only [GS, TT_eq, TTl, Nat.reduceAdd, Nat.reduceMul, Nat.reduceSub, Nat.reduceDiv, Nat.reduceMod, Nat.reducePow, Nat.reduceEqDiff, ↓reduceIte, reduceCtorEq, Int.reduceToNat, Int.reduceAdd, Int.reduceSub, Int.reduceMul, cellsL_one osv, osv]
  refine ⟨fok25, hEb _ _ _ (hiB _ _ _ hr_ (by rw [hlB]; exact Rd.own hsv)) _ fun v15 hM_ => .inl ⟨_, rfl, hold_ops okT (rs := [.tmp 0]) rfl ?_⟩⟩
  replace hP := hM_.get hP (by simp)
  replace hQ := hM_.get hQ (by simp)
  replace hMv := hMv.trans hM_ (by simp)
  clear hM_ hr_ hsv osv
  have cQ := fun o => cellOf (o := o) hQ
  have xQ := fun o => frozenOf (o := o) hQ
  simp (maxSteps := 1000000) (disch := first | omega | (simp only [sizeAlloc, sizeDrew, sizeSet, sizePut] <;> omega) | fail) only [GS, TT_eq, TTl, Nat.reduceAdd, Nat.reduceMul, Nat.reduceSub, Nat.reduceDiv, Nat.reduceMod, Nat.reducePow, Nat.reduceEqDiff, ↓reduceIte, reduceCtorEq, Int.reduceToNat, Int.reduceAdd, Int.reduceSub, Int.reduceMul, cQ, xQ]
  replace hQ := st1w (x := .int .i64 2) hQ
  replace hP := heapSetNe (b := q) (j := 3) (u := .int .i64 2) hP (by omega)
  replace hMv := hMv.set (p := ⟨q, 3, none⟩) (.inr (by simp only; omega)) (.int .i64 2)
  clear cQ xQ
  generalize v15.setCell ⟨q, 3, none⟩ (.int .i64 2) = v16 at *
  have hql := (Array.getElem?_eq_some_iff.1 hQ).1
  refine hold_stop (s' := some 12) ?_
  refine hold_code okT (rs := [.tmp 0]) rfl ?_
  have cQ := fun o => cellOf (o := o) hQ
  have xQ := fun o => frozenOf (o := o) hQ
  simp (maxSteps := 1000000) (disch := first | omega | (simp only [sizeAlloc, sizeDrew, sizeSet, sizePut] <;> omega) | fail) only [GS, TT_eq, TTl, Nat.reduceAdd, Nat.reduceMul, Nat.reduceSub, Nat.reduceDiv, Nat.reduceMod, Nat.reducePow, Nat.reduceEqDiff, ↓reduceIte, reduceCtorEq, Int.reduceToNat, Int.reduceAdd, Int.reduceSub, Int.reduceMul, cQ, xQ]
  have hP5 := heapNew (w := v16) (o := .cells #[.int .i64 5, .string ⟨#[100, 0]⟩] 48)
  replace hQ := heapAlloc (o' := .cells #[.int .i64 5, .string ⟨#[100, 0]⟩] 48) hQ
  replace hMv := hMv.alloc (.cells #[.int .i64 5, .string ⟨#[100, 0]⟩] 48)
  clear cQ xQ hP
  generalize v16.alloc (.cells #[.int .i64 5, .string ⟨#[100, 0]⟩] 48) = v17 at *
  generalize hp5 : v16.heap.size = p5 at *
  have cQ := 0
  have xQ := 0
  replace hQ := st1x (x := .slice (some ⟨p5, 0, none⟩) 1 1) hQ
  replace hP5 := heapSetNe (b := q) (j := 4) (u := .slice (some ⟨p5, 0, none⟩) 1 1) hP5 (by omega)
  replace hMv := hMv.set (p := ⟨q, 4, none⟩) (.inr (by simp only; omega)) (.slice (some ⟨p5, 0, none⟩) 1 1)
  clear cQ xQ
  generalize v17.setCell ⟨q, 4, none⟩ (.slice (some ⟨p5, 0, none⟩) 1 1) = v18 at *
  refine hold_stop (s' := some 13) ?_
  refine hold_code okT (rs := [.tmp 0]) rfl ?_
  have cQ := fun o => cellOf (o := o) hQ
  have xQ := fun o => frozenOf (o := o) hQ
  simp (maxSteps := 1000000) (disch := first | omega | (simp only [sizeAlloc, sizeDrew, sizeSet, sizePut] <;> omega) | fail) only [GS, TT_eq, TTl, Nat.reduceAdd, Nat.reduceMul, Nat.reduceSub, Nat.reduceDiv, Nat.reduceMod, Nat.reducePow, Nat.reduceEqDiff, ↓reduceIte, reduceCtorEq, Int.reduceToNat, Int.reduceAdd, Int.reduceSub, Int.reduceMul, cQ]
  have hr_ := rdBlk (n := 1) (size := 2) (xs := vM5.flatMap mbC) hP5 rfl
  refine ⟨fok26, hSc s _ _ (hs.mod hMv) (hg.mod hMv (by simp)) hr_ rfl _ fun sv v19 hsv hM_ => .inl ⟨_, rfl, hold_ops okT (rs := [.tmp 0]) rfl ?_⟩⟩
  clear cQ xQ
  replace hP5 := hM_.get hP5 (by simp)
  replace hQ := hM_.get hQ (by simp)
  replace hMv := hMv.trans hM_ (by simp)
  replace hr_ := hr_.mod hM_ (by simp)
  have osv := ownsRow_one hsv
  clear hM_
  simp (maxSteps := 1000000) (disch := first | omega | (simp only [sizeAlloc, sizeDrew, sizeSet, sizePut] <;> omega) | fail) only [GS, TT_eq, TTl, Nat.reduceAdd, Nat.reduceMul, Nat.reduceSub, Nat.reduceDiv, Nat.reduceMod, Nat.reducePow, Nat.reduceEqDiff, ↓reduceIte, reduceCtorEq, Int.reduceToNat, Int.reduceAdd, Int.reduceSub, Int.reduceMul, cellsL_one osv, osv]
  refine ⟨fok25, hEc _ _ _ (hiC _ _ _ hr_ (by rw [hlC]; exact Rd.own hsv)) _ fun v20 hM_ => .inl ⟨_, rfl, hold_ops okT (rs := [.tmp 0]) rfl ?_⟩⟩
  replace hP5 := hM_.get hP5 (by simp)
  replace hQ := hM_.get hQ (by simp)
  replace hMv := hMv.trans hM_ (by simp)
  clear hM_ hr_ hsv osv
  have cQ := fun o => cellOf (o := o) hQ
  have xQ := fun o => frozenOf (o := o) hQ
  simp (maxSteps := 1000000) (disch := first | omega | (simp only [sizeAlloc, sizeDrew, sizeSet, sizePut] <;> omega) | fail) only [GS, TT_eq, TTl, Nat.reduceAdd, Nat.reduceMul, Nat.reduceSub, Nat.reduceDiv, Nat.reduceMod, Nat.reducePow, Nat.reduceEqDiff, ↓reduceIte, reduceCtorEq, Int.reduceToNat, Int.reduceAdd, Int.reduceSub, Int.reduceMul, cQ, xQ]
  clear cQ xQ hP5 hQ
  refine hold_stop (s' := some 14) ?_
  refine hold_code okT (rs := [.tmp 0]) rfl ?_
  simp (maxSteps := 1000000) (disch := first | omega | (simp only [sizeAlloc, sizeDrew, sizeSet, sizePut] <;> omega) | fail) only [GS, TT_eq, TTl, Nat.reduceAdd, Nat.reduceMul, Nat.reduceSub, Nat.reduceDiv, Nat.reduceMod, Nat.reducePow, Nat.reduceEqDiff, ↓reduceIte, reduceCtorEq, Int.reduceToNat, Int.reduceAdd, Int.reduceSub, Int.reduceMul]
  refine ⟨fok12, hVA vp _ (hv.mod hMv) _ (fun r sm st v21 hr hm ht hM_ => .inl ⟨_, rfl, hold_ops okT (rs := [.tmp 0]) rfl ?_⟩) (fun k c w' h => by cases h)⟩
  cases hr
  simp only at hm ht ⊢
  rw [show vM1.length = 1 from rfl] at hm
  obtain ⟨sa_, sc_, rfl⟩ := (Rd.own hm).slice
  have om := ownsRow_one hm
  have ot := ownsRow_one ht
  replace hMv := hMv.trans hM_ (by simp)
  clear hM_
  simp (maxSteps := 1000000) (disch := first | omega | (simp only [sizeAlloc, sizeDrew, sizeSet, sizePut] <;> omega) | fail) only [GS, TT_eq, TTl, Nat.reduceAdd, Nat.reduceMul, Nat.reduceSub, Nat.reduceDiv, Nat.reduceMod, Nat.reducePow, Nat.reduceEqDiff, ↓reduceIte, reduceCtorEq, Int.reduceToNat, Int.reduceAdd, Int.reduceSub, Int.reduceMul, cellsL_one om, om, cellsL_one ot, ot]
  generalize hW_ : (((((((v21.alloc (.cells #[(.int .i64 0), (.int .i64 0), (.int .i64 0), (.int .i64 0), (.slice none 0 0), (.slice none 0 0)] 41)).setCell ⟨v21.heap.size, 0, none⟩ (.int .i64 0)).setCell ⟨v21.heap.size, 1, none⟩ (.int .i64 1)).setCell ⟨v21.heap.size, 2, none⟩ (.int .i64 1)).setCell ⟨v21.heap.size, 3, none⟩ (.int .i64 2)).setCell ⟨v21.heap.size, 4, none⟩ (.slice sa_ 1 sc_)).setCell ⟨v21.heap.size, 5, none⟩ st) = v22
  obtain ⟨hX, hM_⟩ : v22.heap[v21.heap.size]? = some (.cells #[(.int .i64 0), (.int .i64 1), (.int .i64 1), (.int .i64 2), (.slice sa_ 1 sc_), st] 41 (0, 0)) ∧ Mod [] v21 v22 := by
    subst hW_
    exact ⟨st6z heapNew, modSet6z ((Mod.refl [] v21).alloc _) (.inr (Nat.le_refl _))⟩
  clear hW_
  generalize hq_qA : v21.heap.size = qA at *
  replace hMv := hMv.trans hM_ (by simp)
  clear hM_
  refine hold_stop (s' := some 15) ?_
  refine hold_code okT (rs := [.tmp 0]) rfl ?_
  simp (maxSteps := 1000000) (disch := first | omega | (simp only [sizeAlloc, sizeDrew, sizeSet, sizePut] <;> omega) | fail) only [GS, TT_eq, TTl, Nat.reduceAdd, Nat.reduceMul, Nat.reduceSub, Nat.reduceDiv, Nat.reduceMod, Nat.reducePow, Nat.reduceEqDiff, ↓reduceIte, reduceCtorEq, Int.reduceToNat, Int.reduceAdd, Int.reduceSub, Int.reduceMul]
  refine ⟨fok12, hVB vp _ (hv.mod hMv) _ (fun r _ _ _ h => by cases h) (fun k c v23 h hc_ hM_ => .inl ⟨_, rfl, hold_ops okT (rs := [.tmp 0]) rfl ?_⟩)⟩
  cases h
  unfold rcZ
  replace hX := hM_.get hX (by simp)
  replace hMv := hMv.trans hM_ (by simp)
  clear hM_
  simp (maxSteps := 1000000) (disch := first | omega | (simp only [sizeAlloc, sizeDrew, sizeSet, sizePut] <;> omega) | fail) only [GS, TT_eq, TTl, Nat.reduceAdd, Nat.reduceMul, Nat.reduceSub, Nat.reduceDiv, Nat.reduceMod, Nat.reducePow, Nat.reduceEqDiff, ↓reduceIte, reduceCtorEq, Int.reduceToNat, Int.reduceAdd, Int.reduceSub, Int.reduceMul]
  generalize hW_ : (((((((v23.alloc (.cells #[(.int .i64 0), (.int .i64 0), (.int .i64 0), (.int .i64 0), (.slice none 0 0), (.slice none 0 0)] 41)).setCell ⟨v23.heap.size, 0, none⟩ (.int .i64 0)).setCell ⟨v23.heap.size, 1, none⟩ (.int .i64 0)).setCell ⟨v23.heap.size, 2, none⟩ (.int .i64 0)).setCell ⟨v23.heap.size, 3, none⟩ (.int .i64 0)).setCell ⟨v23.heap.size, 4, none⟩ (.slice none 0 0)).setCell ⟨v23.heap.size, 5, none⟩ (.slice none 0 0)) = v24
  obtain ⟨hX_, hM_⟩ : v24.heap[v23.heap.size]? = some (.cells #[(.int .i64 0), (.int .i64 0), (.int .i64 0), (.int .i64 0), (.slice none 0 0), (.slice none 0 0)] 41 (0, 0)) ∧ Mod [] v23 v24 := by
    subst hW_
    exact ⟨st6z heapNew, modSet6z ((Mod.refl [] v23).alloc _) (.inr (Nat.le_refl _))⟩
  clear hW_
  generalize hq_qB : v23.heap.size = qB at *
  replace hX := hM_.get hX (by simp)
  replace hMv := hMv.trans hM_ (by simp)
  clear hM_ hX_
  refine hold_stop (s' := some 16) ?_
  refine hold_code okT (rs := [.tmp 0]) rfl ?_
  simp (maxSteps := 1000000) (disch := first | omega | (simp only [sizeAlloc, sizeDrew, sizeSet, sizePut] <;> omega) | fail) only [GS, TT_eq, TTl, Nat.reduceAdd, Nat.reduceMul, Nat.reduceSub, Nat.reduceDiv, Nat.reduceMod, Nat.reducePow, Nat.reduceEqDiff, ↓reduceIte, reduceCtorEq, Int.reduceToNat, Int.reduceAdd, Int.reduceSub, Int.reduceMul]
  refine ⟨fok12, hVC vp _ (hv.mod hMv) _ (fun r _ _ _ h => by cases h) (fun k c v25 h hc_ hM_ => .inl ⟨_, rfl, hold_ops okT (rs := [.tmp 0]) rfl ?_⟩)⟩
  cases h
  unfold rcZ
  replace hX := hM_.get hX (by simp)
  replace hMv := hMv.trans hM_ (by simp)
  clear hM_
  simp (maxSteps := 1000000) (disch := first | omega | (simp only [sizeAlloc, sizeDrew, sizeSet, sizePut] <;> omega) | fail) only [GS, TT_eq, TTl, Nat.reduceAdd, Nat.reduceMul, Nat.reduceSub, Nat.reduceDiv, Nat.reduceMod, Nat.reducePow, Nat.reduceEqDiff, ↓reduceIte, reduceCtorEq, Int.reduceToNat, Int.reduceAdd, Int.reduceSub, Int.reduceMul]
  generalize hW_ : (((((((v25.alloc (.cells #[(.int .i64 0), (.int .i64 0), (.int .i64 0), (.int .i64 0), (.slice none 0 0), (.slice none 0 0)] 41)).setCell ⟨v25.heap.size, 0, none⟩ (.int .i64 0)).setCell ⟨v25.heap.size, 1, none⟩ (.int .i64 0)).setCell ⟨v25.heap.size, 2, none⟩ (.int .i64 0)).setCell ⟨v25.heap.size, 3, none⟩ (.int .i64 0)).setCell ⟨v25.heap.size, 4, none⟩ (.slice none 0 0)).setCell ⟨v25.heap.size, 5, none⟩ (.slice none 0 0)) = v26
  obtain ⟨hX_, hM_⟩ : v26.heap[v25.heap.size]? = some (.cells #[(.int .i64 0), (.int .i64 0), (.int .i64 0), (.int .i64 0), (.slice none 0 0), (.slice none 0 0)] 41 (0, 0)) ∧ Mod [] v25 v26 := by
    subst hW_
    exact ⟨st6z heapNew, modSet6z ((Mod.refl [] v25).alloc _) (.inr (Nat.le_refl _))⟩
  clear hW_
  generalize hq_qC : v25.heap.size = qC at *
  replace hX := hM_.get hX (by simp)
  replace hMv := hMv.trans hM_ (by simp)
  clear hM_ hX_
  have cX := fun o => cellOf (o := o) hX
  refine hold_stop (s' := none) ?_
  refine hold_code okT (rs := [.tmp 0]) rfl ?_
  simp (maxSteps := 1000000) (disch := first | omega | (simp only [sizeAlloc, sizeDrew, sizeSet, sizePut] <;> omega) | fail) only [GS, TT_eq, TTl, Nat.reduceAdd, Nat.reduceMul, Nat.reduceSub, Nat.reduceDiv, Nat.reduceMod, Nat.reducePow, Nat.reduceEqDiff, ↓reduceIte, reduceCtorEq, Int.reduceToNat, Int.reduceAdd, Int.reduceSub, Int.reduceMul, cX]
  refine ⟨fok27, hSh vp _ (hv.mod hMv) _ fun v27 hM_ => .inl ⟨_, rfl, hold_ops okT (rs := [.tmp 0]) rfl ?_⟩⟩
  replace hX := hM_.get hX (by simp)
  replace hMv := hMv.trans hM_ (by simp)
  clear hM_ cX
  have cX := fun o => cellOf (o := o) hX
  simp (maxSteps := 1000000) (disch := first | omega | (simp only [sizeAlloc, sizeDrew, sizeSet, sizePut] <;> omega) | fail) only [GS, TT_eq, TTl, Nat.reduceAdd, Nat.reduceMul, Nat.reduceSub, Nat.reduceDiv, Nat.reduceMod, Nat.reducePow, Nat.reduceEqDiff, ↓reduceIte, reduceCtorEq, Int.reduceToNat, Int.reduceAdd, Int.reduceSub, Int.reduceMul, cX, eq_self]
  exact hR _ (hM03.trans hMv (by simp))
end Go.Proofs.YtcikecociiebkaaGreatDoor
set_option linter.unusedSimpArgs false
set_option linter.unusedVariables false
set_option maxRecDepth 20000
namespace Go.Proofs.YtcikecociiebkaaGreatDoor
open Go Go.Wk Go.RowKit
attribute [local irreducible] go Hold
open Go.Lib
set_option maxRecDepth 20000 in
set_option maxHeartbeats 64000000 in
theorem holds27_cps (sa : Value) (xs : List Tm) (aud : Int) (t : Tm) (w : World) (hg : KG w) (hx : xs.length ≤ 9223372036854775807) (hxs : ∀ s ∈ xs, s.length ≤ maxLen) (ha : Rd w 1 sa xs.length (xs.map strV)) (ht : t.length ≤ maxLen) (R : Ending → World → Prop) (hR : ∀ w', Mod [] w w' → R (.returned (.bool true)) w') :
    Calls Tryz.prog 3 #[sa, .int .i64 aud, .string ⟨t.toArray⟩] w R := by
  refine calls_go 4000 okT Tryz.func3 rfl (rs := [.tmp 6]) rfl Tryz.ntmps3 (args := [sa, .int .i64 aud, .string ⟨t.toArray⟩]) ?_
  simp (maxSteps := 1000000) (disch := first | omega | (simp only [sizeAlloc, sizeDrew, sizeSet, sizePut] <;> omega) | fail) only [GS, TT_eq, TTl, Nat.reduceAdd, Nat.reduceMul, Nat.reduceSub, Nat.reduceDiv, Nat.reduceMod, Nat.reducePow, Nat.reduceEqDiff, ↓reduceIte, reduceCtorEq, Int.reduceToNat, Int.reduceAdd, Int.reduceSub, Int.reduceMul]
  refine ⟨fok5, Long10s_cps sa xs _ _ hx hxs ha fun b1 hb1 => .inl ⟨_, rfl, hold_ops okT (rs := [.tmp 6]) rfl ?_⟩⟩
  cases b1
  rotate_left
  · simp (maxSteps := 1000000) (disch := first | omega | (simp only [sizeAlloc, sizeDrew, sizeSet, sizePut] <;> omega) | fail) only [GS, TT_eq, TTl, Nat.reduceAdd, Nat.reduceMul, Nat.reduceSub, Nat.reduceDiv, Nat.reduceMod, Nat.reducePow, Nat.reduceEqDiff, ↓reduceIte, reduceCtorEq, Int.reduceToNat, Int.reduceAdd, Int.reduceSub, Int.reduceMul]
    refine ⟨fok6, alive27_cps _ hg _ fun wz hMz => .inl ⟨_, rfl, hold_ops okT (rs := [.tmp 6]) rfl ?_⟩⟩
    simp (maxSteps := 1000000) (disch := first | omega | (simp only [sizeAlloc, sizeDrew, sizeSet, sizePut] <;> omega) | fail) only [GS, TT_eq, TTl, Nat.reduceAdd, Nat.reduceMul, Nat.reduceSub, Nat.reduceDiv, Nat.reduceMod, Nat.reducePow, Nat.reduceEqDiff, ↓reduceIte, reduceCtorEq, Int.reduceToNat, Int.reduceAdd, Int.reduceSub, Int.reduceMul]
    exact hR _ (hMz)
  obtain ⟨hl40, hsum⟩ := hb1 rfl
  by_cases h6 : 6000 < t.length
  · simp (maxSteps := 1000000) (disch := first | omega | (simp only [sizeAlloc, sizeDrew, sizeSet, sizePut] <;> omega) | fail) only [GS, TT_eq, TTl, Nat.reduceAdd, Nat.reduceMul, Nat.reduceSub, Nat.reduceDiv, Nat.reduceMod, Nat.reducePow, Nat.reduceEqDiff, ↓reduceIte, reduceCtorEq, Int.reduceToNat, Int.reduceAdd, Int.reduceSub, Int.reduceMul]
    refine ⟨fok6, alive27_cps _ hg _ fun wz hMz => .inl ⟨_, rfl, hold_ops okT (rs := [.tmp 6]) rfl ?_⟩⟩
    simp (maxSteps := 1000000) (disch := first | omega | (simp only [sizeAlloc, sizeDrew, sizeSet, sizePut] <;> omega) | fail) only [GS, TT_eq, TTl, Nat.reduceAdd, Nat.reduceMul, Nat.reduceSub, Nat.reduceDiv, Nat.reduceMod, Nat.reducePow, Nat.reduceEqDiff, ↓reduceIte, reduceCtorEq, Int.reduceToNat, Int.reduceAdd, Int.reduceSub, Int.reduceMul]
    exact hR _ (hMz)
  simp (maxSteps := 1000000) (disch := first | omega | (simp only [sizeAlloc, sizeDrew, sizeSet, sizePut] <;> omega) | fail) only [GS, TT_eq, TTl, Nat.reduceAdd, Nat.reduceMul, Nat.reduceSub, Nat.reduceDiv, Nat.reduceMod, Nat.reducePow, Nat.reduceEqDiff, ↓reduceIte, reduceCtorEq, Int.reduceToNat, Int.reduceAdd, Int.reduceSub, Int.reduceMul]
  refine ⟨fok7, sNew_cps [] w _ fun s u1 hs hM0 => .inl ⟨_, rfl, hold_ops okT (rs := [.tmp 6]) rfl ?_⟩⟩
  have hg1 := hg.mod hM0 (by simp)
  simp (maxSteps := 1000000) (disch := first | omega | (simp only [sizeAlloc, sizeDrew, sizeSet, sizePut] <;> omega) | fail) only [GS, TT_eq, TTl, Nat.reduceAdd, Nat.reduceMul, Nat.reduceSub, Nat.reduceDiv, Nat.reduceMod, Nat.reducePow, Nat.reduceEqDiff, ↓reduceIte, reduceCtorEq, Int.reduceToNat, Int.reduceAdd, Int.reduceSub, Int.reduceMul]
  by_cases hau : 0 ≤ aud ∧ aud < 8
  rotate_left
  · refine ⟨fok8, vKeys_bad s aud 8 (by omega) _ _ (.inl ⟨_, rfl, hold_ops okT (rs := [.tmp 6]) rfl ?_⟩)⟩
    by_cases h0 : aud < 0
    · simp (maxSteps := 1000000) (disch := first | omega | (simp only [sizeAlloc, sizeDrew, sizeSet, sizePut] <;> omega) | fail) only [GS, TT_eq, TTl, Nat.reduceAdd, Nat.reduceMul, Nat.reduceSub, Nat.reduceDiv, Nat.reduceMod, Nat.reducePow, Nat.reduceEqDiff, ↓reduceIte, reduceCtorEq, Int.reduceToNat, Int.reduceAdd, Int.reduceSub, Int.reduceMul]
      refine ⟨fok6, alive27_cps _ hg1 _ fun wz hMz => .inl ⟨_, rfl, hold_ops okT (rs := [.tmp 6]) rfl ?_⟩⟩
      simp (maxSteps := 1000000) (disch := first | omega | (simp only [sizeAlloc, sizeDrew, sizeSet, sizePut] <;> omega) | fail) only [GS, TT_eq, TTl, Nat.reduceAdd, Nat.reduceMul, Nat.reduceSub, Nat.reduceDiv, Nat.reduceMod, Nat.reducePow, Nat.reduceEqDiff, ↓reduceIte, reduceCtorEq, Int.reduceToNat, Int.reduceAdd, Int.reduceSub, Int.reduceMul]
      exact hR _ (hM0.trans hMz (by simp))
    · have h8 : 8 ≤ aud := by omega
      simp (maxSteps := 1000000) (disch := first | omega | (simp only [sizeAlloc, sizeDrew, sizeSet, sizePut] <;> omega) | fail) only [GS, TT_eq, TTl, Nat.reduceAdd, Nat.reduceMul, Nat.reduceSub, Nat.reduceDiv, Nat.reduceMod, Nat.reducePow, Nat.reduceEqDiff, ↓reduceIte, reduceCtorEq, Int.reduceToNat, Int.reduceAdd, Int.reduceSub, Int.reduceMul]
      refine ⟨fok6, alive27_cps _ hg1 _ fun wz hMz => .inl ⟨_, rfl, hold_ops okT (rs := [.tmp 6]) rfl ?_⟩⟩
      simp (maxSteps := 1000000) (disch := first | omega | (simp only [sizeAlloc, sizeDrew, sizeSet, sizePut] <;> omega) | fail) only [GS, TT_eq, TTl, Nat.reduceAdd, Nat.reduceMul, Nat.reduceSub, Nat.reduceDiv, Nat.reduceMod, Nat.reducePow, Nat.reduceEqDiff, ↓reduceIte, reduceCtorEq, Int.reduceToNat, Int.reduceAdd, Int.reduceSub, Int.reduceMul]
      exact hR _ (hM0.trans hMz (by simp))
  obtain ⟨hau0, hau8⟩ := hau
  have hkn : (kysF aud 8).length = 8 := kys_len aud 8
  have hkk := @kys_kd aud 8 ⟨hau0, hau8⟩ (by omega)
  have hVf := fun vp w h => vVerify_cps vp aud (kysF aud 8) t ht w h (by rw [hkn]; omega) kys_sz
  have hpl := fun r => @holds_plain xs aud 8 t r
  have hvo := fun r (h : vfyF (kysF aud 8) aud t = .ok r) => vfyF_ok h
  refine ⟨fok8, vKeys_cps s aud 8 (by omega) (by omega) _ hs hg1 _ fun ka u2 hka hM2 => .inl ⟨_, rfl, hold_ops okT (rs := [.tmp 6]) rfl ?_⟩⟩
  generalize kysF aud 8 = ks at *
  have hrk := Rd.own hka
  have oka := ownsRow_one hka
  have hM02 := hM0.trans hM2 (by simp)
  have hg2 := hg1.mod hM2 (by simp)
  have hs2 := hs.mod hM2
  simp (maxSteps := 1000000) (disch := first | omega | (simp only [sizeAlloc, sizeDrew, sizeSet, sizePut] <;> omega) | fail) only [GS, TT_eq, TTl, Nat.reduceAdd, Nat.reduceMul, Nat.reduceSub, Nat.reduceDiv, Nat.reduceMod, Nat.reducePow, Nat.reduceEqDiff, ↓reduceIte, reduceCtorEq, Int.reduceToNat, Int.reduceAdd, Int.reduceSub, Int.reduceMul, cellsL_one oka, oka]
  refine ⟨fok9, vNew_cps aud ks ka _ ⟨hau0, hau8⟩ (by omega) hkk (by rw [hkn]; exact hrk) _ fun vp wv hv hM3 => .inl ⟨_, rfl, hold_ops okT (rs := [.tmp 6]) rfl ?_⟩⟩
  have hM03 := hM02.trans hM3 (by simp)
  have hgv := hg2.mod hM3 (by simp)
  have hsv := hs2.mod hM3
  have hav := ha.mod hM03 (by simp)
  clear hka hrk oka hM02 hg2 hs2 hM2 hM0 hg1 hM3 hs ha hkk
  simp (maxSteps := 1000000) (disch := first | omega | (simp only [sizeAlloc, sizeDrew, sizeSet, sizePut] <;> omega) | fail) only [GS, TT_eq, TTl, Nat.reduceAdd, Nat.reduceMul, Nat.reduceSub, Nat.reduceDiv, Nat.reduceMod, Nat.reducePow, Nat.reduceEqDiff, ↓reduceIte, reduceCtorEq, Int.reduceToNat, Int.reduceAdd, Int.reduceSub, Int.reduceMul]
  refine ⟨fok10, new_cps wv _ fun w1 kp mr hK1 hkp hmr hM1 => .inl ⟨_, rfl, hold_ops okT (rs := [.tmp 6]) rfl ?_⟩⟩
  obtain ⟨pa, ca, rfl⟩ := hav.slice
  simp (maxSteps := 1000000) (disch := first | omega | (simp only [sizeAlloc, sizeDrew, sizeSet, sizePut] <;> omega) | fail) only [GS, TT_eq, TTl, Nat.reduceAdd, Nat.reduceMul, Nat.reduceSub, Nat.reduceDiv, Nat.reduceMod, Nat.reducePow, Nat.reduceEqDiff, ↓reduceIte, reduceCtorEq, Int.reduceToNat, Int.reduceAdd, Int.reduceSub, Int.reduceMul]
  refine hold_loop okT (rs := [.tmp 6]) rfl [14] [81, 82, 83, 84, 85, 86, 87, 88, 89, 90, 91, 92] (fun vs w' => ∃ (k mr : Nat) (E : List Ent), k ≤ xs.length ∧ vs = [.int .i64 k] ∧ KnIs (okL (xs.take k)) E ∧ FinE E ∧ KnAt w' kp mr E ∧ Mod [] wv w') (fun vs _ => match vs with | [.int _ i] => xs.length - i.toNat | _ => 0) (by kernel_rfl) ⟨0, mr, [], by omega, rfl, KnIs.nil, Fin.nil, hK1, hM1⟩ ?_
  clear hK1 hM1 hmr
  rintro vs w2 J ⟨k, mr2, E, hk, rfl, hI, hF, hK, hM⟩
  by_cases hlt : k < xs.length
  · obtain ⟨b1, o1, c1, e1, _, g1⟩ := (hav.mod hM (by simp)).at (by omega) (by omega)
    have f1 := g1 k _ (getS hlt)
    rw [Value.slice.injEq] at e1
    obtain ⟨rfl, -, -⟩ := e1
    have htk := List.take_succ_eq_append_getElem hlt
    have hzl := hxs _ (List.getElem_mem hlt)
    have hs1 := sumL_take xs (k + 1)
    rw [htk] at hs1
    generalize xs[k] = z at f1 htk hzl hs1
    simp (maxSteps := 1000000) (disch := first | omega | (simp only [sizeAlloc, sizeDrew, sizeSet, sizePut] <;> omega) | fail) only [GS, TT_eq, TTl, Nat.reduceAdd, Nat.reduceMul, Nat.reduceSub, Nat.reduceDiv, Nat.reduceMod, Nat.reducePow, Nat.reduceEqDiff, ↓reduceIte, reduceCtorEq, Int.reduceToNat, Int.reduceAdd, Int.reduceSub, Int.reduceMul, f1]
    refine ⟨fok11, learn_cps _ (okL_ok _) E hI hF z hzl kp mr2 w2 hK _ (fun hc w3 hM3 => ?_) (fun hc E3 mr3 w3 hI3 hF3 _ hK3 _ hM3 => ?_) (fun hc E3 w3 hI3 hn3 hM3 => ?_)⟩
    · refine .inl ⟨_, rfl, hold_ops okT (rs := [.tmp 6]) rfl ?_⟩
      simp (maxSteps := 1000000) (disch := first | omega | (simp only [sizeAlloc, sizeDrew, sizeSet, sizePut] <;> omega) | fail) only [GS, TT_eq, TTl, Nat.reduceAdd, Nat.reduceMul, Nat.reduceSub, Nat.reduceDiv, Nat.reduceMod, Nat.reducePow, Nat.reduceEqDiff, ↓reduceIte, reduceCtorEq, Int.reduceToNat, Int.reduceAdd, Int.reduceSub, Int.reduceMul]
      refine ⟨⟨k + 1, mr2, E, by omega, rfl, ?_, hF, hK.mod0 hM3, hM.trans hM3 (by simp)⟩, by omega⟩
      rw [htk, okL_app, okL_no hc, List.append_nil]
      exact hI
    · refine .inl ⟨_, rfl, hold_ops okT (rs := [.tmp 6]) rfl ?_⟩
      simp (maxSteps := 1000000) (disch := first | omega | (simp only [sizeAlloc, sizeDrew, sizeSet, sizePut] <;> omega) | fail) only [GS, TT_eq, TTl, Nat.reduceAdd, Nat.reduceMul, Nat.reduceSub, Nat.reduceDiv, Nat.reduceMod, Nat.reducePow, Nat.reduceEqDiff, ↓reduceIte, reduceCtorEq, Int.reduceToNat, Int.reduceAdd, Int.reduceSub, Int.reduceMul]
      refine ⟨⟨k + 1, mr3, E3, by omega, rfl, ?_, hF3, hK3, hM.trans hM3 (by intro y hy; simp only [List.mem_singleton] at hy; subst hy; exact .inr hkp)⟩, by omega⟩
      rw [htk, okL_app, okL_one hc]
      exact hI3
    · exfalso
      have hok : ∀ s ∈ okL (xs.take k) ++ [z], checkS s = 0 := by intro s hs; rcases List.mem_append.1 hs with h | h; exact okL_ok _ s h; simp only [List.mem_singleton] at h; rw [h]; exact hc
      have h1 := hI3.small hok
      have h2 := sumL_ok (xs.take k)
      rw [sumL_app] at h1 hs1
      omega
  have e : k = xs.length := by omega
  subst e
  rw [List.take_length] at hI
  have hM02 := hM03.trans hM (by simp)
  simp (maxSteps := 1000000) (disch := first | omega | (simp only [sizeAlloc, sizeDrew, sizeSet, sizePut] <;> omega) | fail) only [GS, TT_eq, TTl, Nat.reduceAdd, Nat.reduceMul, Nat.reduceSub, Nat.reduceDiv, Nat.reduceMod, Nat.reducePow, Nat.reduceEqDiff, ↓reduceIte, reduceCtorEq, Int.reduceToNat, Int.reduceAdd, Int.reduceSub, Int.reduceMul]
  refine ⟨fok12, hVf vp w2 (hv.mod hM) _ (fun r sm st w3 hr hm hst hM3 => .inl ⟨_, rfl, hold_stop (s' := some 18) (hold_ops okT (rs := [.tmp 6]) rfl ?_)⟩) (fun kk c w3 hr hc0 hM3 => .inl ⟨_, rfl, hold_stop (s' := some 18) (hold_ops okT (rs := [.tmp 6]) rfl ?_)⟩)⟩
  rotate_left
  · have hM03 := hM02.trans hM3 (by simp)
    have hM_ := hM.trans hM3 (by simp)
    unfold rcZ
    simp (maxSteps := 1000000) (disch := first | omega | (simp only [sizeAlloc, sizeDrew, sizeSet, sizePut] <;> omega) | fail) only [GS, TT_eq, TTl, Nat.reduceAdd, Nat.reduceMul, Nat.reduceSub, Nat.reduceDiv, Nat.reduceMod, Nat.reducePow, Nat.reduceEqDiff, ↓reduceIte, reduceCtorEq, Int.reduceToNat, Int.reduceAdd, Int.reduceSub, Int.reduceMul]
    generalize hW_ : (((((((w3.alloc (.cells #[(.int .i64 0), (.int .i64 0), (.int .i64 0), (.int .i64 0), (.slice none 0 0), (.slice none 0 0)] 41)).setCell ⟨w3.heap.size, 0, none⟩ (.int .i64 0)).setCell ⟨w3.heap.size, 1, none⟩ (.int .i64 0)).setCell ⟨w3.heap.size, 2, none⟩ (.int .i64 0)).setCell ⟨w3.heap.size, 3, none⟩ (.int .i64 0)).setCell ⟨w3.heap.size, 4, none⟩ (.slice none 0 0)).setCell ⟨w3.heap.size, 5, none⟩ (.slice none 0 0)) = w4
    obtain ⟨hX, hM4⟩ : w4.heap[w3.heap.size]? = some (.cells #[(.int .i64 0), (.int .i64 0), (.int .i64 0), (.int .i64 0), (.slice none 0 0), (.slice none 0 0)] 41 (0, 0)) ∧ Mod [] w3 w4 := by
      subst hW_
      exact ⟨st6z heapNew, modSet6z ((Mod.refl [] w3).alloc _) (.inr (Nat.le_refl _))⟩
    clear hW_
    generalize hq_q : w3.heap.size = q at *
    refine hold_stop (s' := none) ?_
    refine hold_code okT (rs := [.tmp 6]) rfl ?_
    simp (maxSteps := 1000000) (disch := first | omega | (simp only [sizeAlloc, sizeDrew, sizeSet, sizePut] <;> omega) | fail) only [GS, TT_eq, TTl, Nat.reduceAdd, Nat.reduceMul, Nat.reduceSub, Nat.reduceDiv, Nat.reduceMod, Nat.reducePow, Nat.reduceEqDiff, ↓reduceIte, reduceCtorEq, Int.reduceToNat, Int.reduceAdd, Int.reduceSub, Int.reduceMul, hc0]
    refine ⟨fok6, alive27_cps _ (hgv.mod (hM_.trans hM4 (by simp)) (by simp)) _ fun wz hMz => .inl ⟨_, rfl, hold_ops okT (rs := [.tmp 6]) rfl ?_⟩⟩
    simp (maxSteps := 1000000) (disch := first | omega | (simp only [sizeAlloc, sizeDrew, sizeSet, sizePut] <;> omega) | fail) only [GS, TT_eq, TTl, Nat.reduceAdd, Nat.reduceMul, Nat.reduceSub, Nat.reduceDiv, Nat.reduceMod, Nat.reducePow, Nat.reduceEqDiff, ↓reduceIte, reduceCtorEq, Int.reduceToNat, Int.reduceAdd, Int.reduceSub, Int.reduceMul]
    exact hR _ ((hM03.trans hM4 (by simp)).trans hMz (by simp))
  obtain ⟨-, hra, -⟩ := hvo r hr
  have hpl := hpl r hr
  have hmay := (of_rc (vfyF_ok hr).1).2.1
  have hmd := (rcpIn_of hmay (Rd.own hm) (Rd.own hst)).mdig
  have hml : r.mbs.length ≤ 1000000 := (rcpIn_of hmay (Rd.own hm) (Rd.own hst)).mlen
  have hTg := fun s ms org w => bTag_cps s r.tx aud ms r.mbs org w hml hmd
  clear hr hvo
  obtain ⟨⟨ra, rb, rc⟩, rau, mbs, tags⟩ := r
  unfold rcV rcC
  unfold balV at hTg
  simp only at hm hst hpl hTg hra hmd hml ⊢
  subst hra
  have om := ownsRow_one hm
  have ot := ownsRow_one hst
  have hM03 := hM02.trans hM3 (by simp)
  have hMv := hM.trans hM3 (by simp)
  have hK3 := hK.mod0 hM3
  simp (maxSteps := 1000000) (disch := first | omega | (simp only [sizeAlloc, sizeDrew, sizeSet, sizePut] <;> omega) | fail) only [GS, TT_eq, TTl, Nat.reduceAdd, Nat.reduceMul, Nat.reduceSub, Nat.reduceDiv, Nat.reduceMod, Nat.reducePow, Nat.reduceEqDiff, ↓reduceIte, reduceCtorEq, Int.reduceToNat, Int.reduceAdd, Int.reduceSub, Int.reduceMul, cellsL_one om, om, cellsL_one ot, ot]
  generalize hW_ : (((((((w3.alloc (.cells #[(.int .i64 0), (.int .i64 0), (.int .i64 0), (.int .i64 0), (.slice none 0 0), (.slice none 0 0)] 41)).setCell ⟨w3.heap.size, 0, none⟩ (.int .i64 ra)).setCell ⟨w3.heap.size, 1, none⟩ (.int .i64 rb)).setCell ⟨w3.heap.size, 2, none⟩ (.int .i64 rc)).setCell ⟨w3.heap.size, 3, none⟩ (.int .i64 rau)).setCell ⟨w3.heap.size, 4, none⟩ sm).setCell ⟨w3.heap.size, 5, none⟩ st) = w4
  obtain ⟨hX, hM4⟩ : w4.heap[w3.heap.size]? = some (.cells #[(.int .i64 ra), (.int .i64 rb), (.int .i64 rc), (.int .i64 rau), sm, st] 41 (0, 0)) ∧ Mod [] w3 w4 := by
    subst hW_
    exact ⟨st6z heapNew, modSet6z ((Mod.refl [] w3).alloc _) (.inr (Nat.le_refl _))⟩
  clear hW_
  generalize hq_q : w3.heap.size = q at *
  replace hM03 := hM03.trans hM4 (by simp)
  replace hMv := hMv.trans hM4 (by simp)
  replace hK3 := hK3.mod0 hM4
  have hmr := Rd.own (ownsRow_mod hm hM4 (by simp))
  clear hm hst
  refine hold_stop (s' := none) ?_
  refine hold_code okT (rs := [.tmp 6]) rfl ?_
  simp (maxSteps := 1000000) (disch := first | omega | (simp only [sizeAlloc, sizeDrew, sizeSet, sizePut] <;> omega) | fail) only [GS, TT_eq, TTl, Nat.reduceAdd, Nat.reduceMul, Nat.reduceSub, Nat.reduceDiv, Nat.reduceMod, Nat.reducePow, Nat.reduceEqDiff, ↓reduceIte, reduceCtorEq, Int.reduceToNat, Int.reduceAdd, Int.reduceSub, Int.reduceMul]
  refine ⟨fok13, Can_cps E t ht kp mr2 w4 hK3 _ fun w5 hM5 => .inl ⟨_, rfl, hold_ops okT (rs := [.tmp 6]) rfl ?_⟩⟩
  replace hM03 := hM03.trans hM5 (by simp)
  replace hMv := hMv.trans hM5 (by simp)
  have hX5 := hM5.get hX (by simp)
  have hmr5 := hmr.mod hM5 (by simp)
  cases hcan : (decide (checkS t = 0) && mkB E t)
  · simp (maxSteps := 1000000) (disch := first | omega | (simp only [sizeAlloc, sizeDrew, sizeSet, sizePut] <;> omega) | fail) only [GS, TT_eq, TTl, Nat.reduceAdd, Nat.reduceMul, Nat.reduceSub, Nat.reduceDiv, Nat.reduceMod, Nat.reducePow, Nat.reduceEqDiff, ↓reduceIte, reduceCtorEq, Int.reduceToNat, Int.reduceAdd, Int.reduceSub, Int.reduceMul]
    refine ⟨fok6, alive27_cps _ (hgv.mod hMv (by simp)) _ fun wz hMz => .inl ⟨_, rfl, hold_ops okT (rs := [.tmp 6]) rfl ?_⟩⟩
    simp (maxSteps := 1000000) (disch := first | omega | (simp only [sizeAlloc, sizeDrew, sizeSet, sizePut] <;> omega) | fail) only [GS, TT_eq, TTl, Nat.reduceAdd, Nat.reduceMul, Nat.reduceSub, Nat.reduceDiv, Nat.reduceMod, Nat.reducePow, Nat.reduceEqDiff, ↓reduceIte, reduceCtorEq, Int.reduceToNat, Int.reduceAdd, Int.reduceSub, Int.reduceMul]
    exact hR _ (hM03.trans hMz (by simp))
  rw [Bool.and_eq_true] at hcan
  have hpl := hpl ((hI.makes hF (okL_ok xs)).1 (mkB_iff.1 hcan.2))
  obtain ⟨hp0, hpa, hpk⟩ := hpl
  clear hcan hI hF hK hK3 hX hmr hM5 hM4 hM3 hM
  simp (maxSteps := 1000000) (disch := first | omega | (simp only [sizeAlloc, sizeDrew, sizeSet, sizePut] <;> omega) | fail) only [GS, TT_eq, TTl, Nat.reduceAdd, Nat.reduceMul, Nat.reduceSub, Nat.reduceDiv, Nat.reduceMod, Nat.reducePow, Nat.reduceEqDiff, ↓reduceIte, reduceCtorEq, Int.reduceToNat, Int.reduceAdd, Int.reduceSub, Int.reduceMul]
  refine hold_loop okT (rs := [.tmp 6]) rfl [18] [6, 19, 20, 21, 22, 23, 24, 109, 110, 111, 112, 113, 114, 115, 116, 117, 118, 119, 120, 121, 122, 123, 124, 125, 126, 127, 128, 129, 130, 131, 132, 133, 134, 135, 136, 137, 138, 139, 140, 141, 142, 143, 144, 145, 146, 147, 148, 149, 150, 151, 152, 153, 154, 155, 156, 157, 158, 159, 160, 161, 162, 163] (fun vs w' => ∃ k : Nat, k ≤ mbs.length ∧ vs = [.int .i64 k] ∧ Mod [] w5 w') (fun vs _ => match vs with | [.int _ i] => mbs.length - i.toNat | _ => 0) (by kernel_rfl) ⟨0, by omega, rfl, Mod.refl _ _⟩ ?_
  rintro vs w6 J2 ⟨k, hk2, rfl, hM6⟩
  have hX6 := hM6.get hX5 (by simp)
  have hMv6 := hMv.trans hM6 (by simp)
  have hM06 := hM03.trans hM6 (by simp)
  have c6 := fun o => cellOf (o := o) hX6
  obtain ⟨pm, cm, rfl⟩ := hmr5.slice
  by_cases hlt2 : k < mbs.length
  · obtain ⟨b1, o1, c1, e1, _, g1⟩ := (hmr5.mod hM6 (by simp)).at (by omega) (by omega)
    have hfl := fun j hj => flat_get mbC 2 mbC_len mbs k hlt2 j hj
    obtain ⟨ho, tag, htg, hck, hst⟩ := hpk k hlt2
    rw [Value.slice.injEq] at e1
    obtain ⟨rfl, -, -⟩ := e1
    generalize mbs[k] = m at hfl ho htg hst
    have d0 : w6.cell? ⟨b1, o1 + k * 2, none⟩ = some (.int .i64 m.1) := by rw [← g1 (k * 2) _ (hfl 0 (by omega))]
    clear hpk hfl g1
    have hTg := fun s ms w => hTg s ms m.1 w
    rw [htg] at hTg
    unfold stV at hTg
    simp only at hTg
    simp (maxSteps := 1000000) (disch := first | omega | (simp only [sizeAlloc, sizeDrew, sizeSet, sizePut] <;> omega) | fail) only [GS, TT_eq, TTl, Nat.reduceAdd, Nat.reduceMul, Nat.reduceSub, Nat.reduceDiv, Nat.reduceMod, Nat.reducePow, Nat.reduceEqDiff, ↓reduceIte, reduceCtorEq, Int.reduceToNat, Int.reduceAdd, Int.reduceSub, Int.reduceMul, c6, d0]
    refine ⟨fok14, kTag_cps m.1 rau _ _ (hgv.mod hMv6 (by simp)) fun w7 hM7 => .inl ⟨_, rfl, hold_ops okT (rs := [.tmp 6]) rfl ?_⟩⟩
    have hMv7 := hMv6.trans hM7 (by simp)
    have hM07 := hM06.trans hM7 (by simp)
    have hM67 := hM6.trans hM7 (by simp)
    have hkl : (keyL 1 m.1 rau).length ≤ maxLen := by unfold keyL maxLen; simp
    unfold keyA
    rw [if_pos (show pairOk m.1 rau from ⟨⟨ho.1, ho.2⟩, hau0, hau8⟩)]
    simp (maxSteps := 1000000) (disch := first | omega | (simp only [sizeAlloc, sizeDrew, sizeSet, sizePut] <;> omega) | fail) only [GS, TT_eq, TTl, Nat.reduceAdd, Nat.reduceMul, Nat.reduceSub, Nat.reduceDiv, Nat.reduceMod, Nat.reducePow, Nat.reduceEqDiff, ↓reduceIte, reduceCtorEq, Int.reduceToNat, Int.reduceAdd, Int.reduceSub, Int.reduceMul]
    refine ⟨fok15, sKey_cps s (keyL 1 m.1 rau) hkl _ (hsv.mod hMv7) _ fun w8 hM8 => .inl ⟨_, rfl, hold_ops okT (rs := [.tmp 6]) rfl ?_⟩⟩
    have hMv8 := hMv7.trans hM8 (by simp)
    have hM08 := hM07.trans hM8 (by simp)
    have hM68 := hM67.trans hM8 (by simp)
    have hkyl : (kyT m.1 rau).length ≤ maxLen := by have := atomS_len (keyL 1 m.1 rau); unfold kyT maxLen; omega
    rw [ky_ok ho ⟨hau0, hau8⟩]
    unfold stV
    simp (maxSteps := 1000000) (disch := first | omega | (simp only [sizeAlloc, sizeDrew, sizeSet, sizePut] <;> omega) | fail) only [GS, TT_eq, TTl, Nat.reduceAdd, Nat.reduceMul, Nat.reduceSub, Nat.reduceDiv, Nat.reduceMod, Nat.reducePow, Nat.reduceEqDiff, ↓reduceIte, reduceCtorEq, Int.reduceToNat, Int.reduceAdd, Int.reduceSub, Int.reduceMul]
    refine hold_draw okT (rs := [.tmp 6]) rfl [0, 0, 2, 0, 0, 16, 0, 64, 0, 448, 960, 1984, 4094, 8191, 16383, 32767, 32767, 65535, 262143] [0, 1, 2, 3, 4, 5, 6, 7, 8, 9, 10, 11, 12, 13, 14, 15, 16, 17, 18] (by kernel_rfl) (by kernel_rfl) ?_
    have hM89 := (Mod.refl [] w8).drewN 1
    generalize w8.drewN 1 = w9 at *
    have hMv9 := hMv8.trans hM89 (by simp)
    have hM09 := hM08.trans hM89 (by simp)
    have hM59 := hM68.trans hM89 (by simp)
    have hX9 := hM59.get hX5 (by simp)
    have d9 := cellMS (cellMS (cellMS d0 hM7 (by simp)) hM8 (by simp)) hM89 (by simp)
    have c9 := fun o => cellOf (o := o) hX9
    simp (maxSteps := 1000000) (disch := first | omega | (simp only [sizeAlloc, sizeDrew, sizeSet, sizePut] <;> omega) | fail) only [GS, TT_eq, TTl, Nat.reduceAdd, Nat.reduceMul, Nat.reduceSub, Nat.reduceDiv, Nat.reduceMod, Nat.reducePow, Nat.reduceEqDiff, ↓reduceIte, reduceCtorEq, Int.reduceToNat, Int.reduceAdd, Int.reduceSub, Int.reduceMul, c9, d9]
    refine ⟨fok16, hTg s _ _ (hmr5.mod hM59 (by simp)) (hsv.mod hMv9) (hgv.mod hMv9 (by simp)) _ fun wA hMA => .inl ⟨_, rfl, ?_⟩⟩
    have hMvA := hMv9.trans hMA (by simp)
    have hM0A := hM09.trans hMA (by simp)
    have hM5A := hM59.trans hMA (by simp)
    have cA := fun o => cellOf (o := o) (hMA.get hX9 (by simp))
    have dA := cellMS d9 hMA (by simp)
    first | refine hold_dops okT (rs := [.tmp 6]) rfl ?_ | refine ⟨(by repeat' (first | exact cA _ | exact dA | apply And.intro)), hold_dops okT (rs := [.tmp 6]) rfl ?_⟩
    simp (maxSteps := 1000000) (disch := first | omega | (simp only [sizeAlloc, sizeDrew, sizeSet, sizePut] <;> omega) | fail) only [GS, TT_eq, TTl, Nat.reduceAdd, Nat.reduceMul, Nat.reduceSub, Nat.reduceDiv, Nat.reduceMod, Nat.reducePow, Nat.reduceEqDiff, ↓reduceIte, reduceCtorEq, Int.reduceToNat, Int.reduceAdd, Int.reduceSub, Int.reduceMul]
    refine ⟨fok17, stands_cps _ xs (kyT m.1 rau) wA hx hxs hkyl (hav.mod hMvA (by simp)) _ fun wB hMB => .inl ⟨_, rfl, hold_ops okT (rs := [.tmp 6]) rfl ?_⟩⟩
    have hM0B := hM0A.trans hMB (by simp)
    have hM5B := hM5A.trans hMB (by simp)
    have hMvB := hMvA.trans hMB (by simp)
    cases hs1 : stdF xs (kyT m.1 rau)
    · have hs2 : stdF xs tag = true := by rcases hst with h | h; rw [h] at hs1; cases hs1; exact h
      simp (maxSteps := 1000000) (disch := first | omega | (simp only [sizeAlloc, sizeDrew, sizeSet, sizePut] <;> omega) | fail) only [GS, TT_eq, TTl, Nat.reduceAdd, Nat.reduceMul, Nat.reduceSub, Nat.reduceDiv, Nat.reduceMod, Nat.reducePow, Nat.reduceEqDiff, ↓reduceIte, reduceCtorEq, Int.reduceToNat, Int.reduceAdd, Int.reduceSub, Int.reduceMul]
      refine ⟨fok17, stands_cps _ xs tag wB hx hxs (len16 hck) (hav.mod hMvB (by simp)) _ fun wC hMC => .inl ⟨_, rfl, hold_ops okT (rs := [.tmp 6]) rfl ?_⟩⟩
      rw [hs2]
      simp (maxSteps := 1000000) (disch := first | omega | (simp only [sizeAlloc, sizeDrew, sizeSet, sizePut] <;> omega) | fail) only [GS, TT_eq, TTl, Nat.reduceAdd, Nat.reduceMul, Nat.reduceSub, Nat.reduceDiv, Nat.reduceMod, Nat.reducePow, Nat.reduceEqDiff, ↓reduceIte, reduceCtorEq, Int.reduceToNat, Int.reduceAdd, Int.reduceSub, Int.reduceMul]
      exact ⟨⟨k + 1, by omega, rfl, hM5B.trans hMC (by simp)⟩, by omega⟩
    · simp (maxSteps := 1000000) (disch := first | omega | (simp only [sizeAlloc, sizeDrew, sizeSet, sizePut] <;> omega) | fail) only [GS, TT_eq, TTl, Nat.reduceAdd, Nat.reduceMul, Nat.reduceSub, Nat.reduceDiv, Nat.reduceMod, Nat.reducePow, Nat.reduceEqDiff, ↓reduceIte, reduceCtorEq, Int.reduceToNat, Int.reduceAdd, Int.reduceSub, Int.reduceMul]
      exact ⟨⟨k + 1, by omega, rfl, hM5B⟩, by omega⟩
  · have e : k = mbs.length := by omega
    subst e
    simp (maxSteps := 1000000) (disch := first | omega | (simp only [sizeAlloc, sizeDrew, sizeSet, sizePut] <;> omega) | fail) only [GS, TT_eq, TTl, Nat.reduceAdd, Nat.reduceMul, Nat.reduceSub, Nat.reduceDiv, Nat.reduceMod, Nat.reducePow, Nat.reduceEqDiff, ↓reduceIte, reduceCtorEq, Int.reduceToNat, Int.reduceAdd, Int.reduceSub, Int.reduceMul, c6]
    refine ⟨fok6, alive27_cps _ (hgv.mod hMv6 (by simp)) _ fun wz hMz => .inl ⟨_, rfl, hold_ops okT (rs := [.tmp 6]) rfl ?_⟩⟩
    simp (maxSteps := 1000000) (disch := first | omega | (simp only [sizeAlloc, sizeDrew, sizeSet, sizePut] <;> omega) | fail) only [GS, TT_eq, TTl, Nat.reduceAdd, Nat.reduceMul, Nat.reduceSub, Nat.reduceDiv, Nat.reduceMod, Nat.reducePow, Nat.reduceEqDiff, ↓reduceIte, reduceCtorEq, Int.reduceToNat, Int.reduceAdd, Int.reduceSub, Int.reduceMul]
    exact hR _ (hM06.trans hMz (by simp))
end Go.Proofs.YtcikecociiebkaaGreatDoor
set_option linter.unusedSimpArgs false
set_option linter.unusedVariables false
set_option maxRecDepth 20000
namespace Go.Proofs.YtcikecociiebkaaGreatDoor
open Go Go.Wk Go.RowKit
attribute [local irreducible] go Hold
open Go.Lib
theorem strB (z : ByteArray) : Value.string z = strV z.data.toList := by cases z; simp [strV]
theorem rdB {w : World} {v : Value} {l : List ByteArray} (h : Rd w 1 v l.length (l.map fun z => Value.string z)) : Rd w 1 v (l.map fun z => z.data.toList).length ((l.map fun z => z.data.toList).map strV) := by
  rw [List.length_map, List.map_map]
  have : (strV ∘ fun z : ByteArray => z.data.toList) = fun z => Value.string z := funext fun z => (strB z).symm
  rw [this]; exact h
theorem smB {l : List ByteArray} (h : ∀ z ∈ l, z.size ≤ maxLen) : ∀ s ∈ l.map (fun z => z.data.toList), s.length ≤ maxLen := by
  intro s hs
  obtain ⟨z, hz, rfl⟩ := List.mem_map.1 hs
  rw [Array.length_toList]
  exact h z hz
end Go.Proofs.YtcikecociiebkaaGreatDoor
