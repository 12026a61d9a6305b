/-
  know.List: the keys of a map, gathered and sorted (walks).
-/
import Derived.Test.YtgopgonkchlkfaaKtKnw5
import Derived.Shelf.Lay
import Derived.Shelf.Slices.In.SortAlone
import Derived.Shelf.Slices.In.SortNone
import Derived.Sort.OwnSorted
set_option linter.unusedSimpArgs false
set_option linter.unusedVariables false
set_option maxRecDepth 20000
namespace Go.Proofs.Ytgopgonkchlkfaa
open Go Go.Wk Go.RowKit
attribute [local irreducible] go Hold
open Go.Lib Go.Shelf
theorem it_cong {w w' : World} {r m : Nat} {l : List (Value × Value)} (h : ItAt w r m l) (h1 : w'.heap[r]? = w.heap[r]?) (h2 : w'.heap[m]? = w.heap[m]?) : ItAt w' r m l := by
  obtain ⟨a, b, c, d, e, g1, g2, g3⟩ := h
  exact ⟨a, b, c, d, e, h1.trans g1, h2.trans g2, g3⟩
def isIter : Option Obj → Prop
  | some (.mapIter _ _ _ _) => True
  | _ => False
theorem iter_cells {w : World} {r : Nat} (h : isIter w.heap[r]?) : ∀ o, w.heap[r]? = some o → ∀ cs t fr, o ≠ .cells cs t fr := by
  intro o e cs t fr e2
  rw [e, e2] at h
  exact h
set_option maxHeartbeats 4000000 in
theorem keys1_cps (bx l mr : Nat) (lm : List (Value × Value)) (w : World) (R : Ending → World → Prop) (Inv : List (Value × Value) → World → Prop) (h0 : Inv [] w) (hbx : w.heap[bx]? = some (.cells #[.map (some mr)] 102 (0, 0))) (hmp : MapW w mr lm)
    (hm0 : ∀ d w1 w2, Inv d w1 → Mod [] w1 w2 → Inv d w2) (hm : ∀ d w1 w2 it, w.heap.size ≤ it → isIter w1.heap[it]? → Inv d w1 → Mod [it] w1 w2 → Inv d w2)
    (hdone : ∀ d w1, Inv d w1 → d.Perm lm → R (.returned (.tuple #[])) w1)
    (hstep : ∀ d e w1 it, Inv d w1 → e ∈ lm → d.length < lm.length → w.heap.size ≤ it → isIter w1.heap[it]? → yieldW Try.prog l #[e.1] w1 (fun u w' => w'.heap[it]? = w1.heap[it]? ∧ w'.heap[mr]? = w1.heap[mr]? ∧ u = .bool true ∧ Inv (d ++ [e]) w') (fun _ _ => False)) :
    Calls Try.prog 98 #[.func (.yield l) #[] #[], .pointer (some ⟨bx, 0, none⟩)] w R := by
  refine calls_go 4000 okT Try.func98 rfl (rs := []) rfl Try.ntmps98 (args := [.func (.yield l) #[] #[], .pointer (some ⟨bx, 0, none⟩)]) ?_
  have cb : w.cell? ⟨bx, 0, none⟩ = some (.map (some mr)) := by rw [cellOf hbx]; rfl
  have hml := hmp.lt
  simp (maxSteps := 1000000) (disch := first | omega | (simp only [sizeAlloc, sizeDrew, sizeSet, sizePut] <;> omega) | fail) only [GS, TT_eq, TTl, Nat.reduceAdd, Nat.reduceMul, Nat.reduceSub, Nat.reduceDiv, Nat.reduceMod, Nat.reducePow, Nat.reduceEqDiff, ↓reduceIte, reduceCtorEq, Int.reduceToNat, Int.reduceAdd, Int.reduceSub, Int.reduceMul, cb]
  refine hold_rangeMap okT rfl rfl rfl hmp fun w1 hit hM1 hz1 => hold_ops okT (rs := []) rfl ?_
  simp (maxSteps := 1000000) (disch := first | omega | (simp only [sizeAlloc, sizeDrew, sizeSet, sizePut] <;> omega) | fail) only [GS, TT_eq, TTl, Nat.reduceAdd, Nat.reduceMul, Nat.reduceSub, Nat.reduceDiv, Nat.reduceMod, Nat.reducePow, Nat.reduceEqDiff, ↓reduceIte, reduceCtorEq, Int.reduceToNat, Int.reduceAdd, Int.reduceSub, Int.reduceMul]
  have h1 := hm0 _ _ _ h0 hM1
  generalize hgi : w.heap.size = it at *
  refine hold_loop okT (rs := []) rfl [] [3, 6, 7, 8, 9, 10, 11, 12, 13] (fun vs w' => ∃ d left, vs = [] ∧ ItAt w' it mr left ∧ (d ++ left).Perm lm ∧ Inv d w') (fun vs w' => itLeft w' it) (by kernel_rfl) ⟨[], lm, rfl, hit, List.Perm.refl _, h1⟩ ?_
  rintro vs w2 J ⟨d, left, rfl, hit2, hpm, hI⟩
  have hlf := hit2.count
  simp (maxSteps := 1000000) (disch := first | omega | (simp only [sizeAlloc, sizeDrew, sizeSet, sizePut] <;> omega) | fail) only [GS, TT_eq, TTl, Nat.reduceAdd, Nat.reduceMul, Nat.reduceSub, Nat.reduceDiv, Nat.reduceMod, Nat.reducePow, Nat.reduceEqDiff, ↓reduceIte, reduceCtorEq, Int.reduceToNat, Int.reduceAdd, Int.reduceSub, Int.reduceMul]
  refine hold_nextMap rfl rfl hit2 ?_ ?_
  · rintro rfl
    refine hold_ops okT (rs := []) rfl ?_
    simp (maxSteps := 1000000) (disch := first | omega | (simp only [sizeAlloc, sizeDrew, sizeSet, sizePut] <;> omega) | fail) only [GS, TT_eq, TTl, Nat.reduceAdd, Nat.reduceMul, Nat.reduceSub, Nat.reduceDiv, Nat.reduceMod, Nat.reducePow, Nat.reduceEqDiff, ↓reduceIte, reduceCtorEq, Int.reduceToNat, Int.reduceAdd, Int.reduceSub, Int.reduceMul]
    rw [List.append_nil] at hpm
    exact hdone _ _ hI hpm
  rintro key val a b w3 rfl hit3 hent3 hM3
  have hi2 : isIter w2.heap[it]? := by
    obtain ⟨_, _, _, _, _, g, _⟩ := hit2
    rw [g]; trivial
  have hi3 : isIter w3.heap[it]? := by
    obtain ⟨_, _, _, _, _, g, _⟩ := hit3
    rw [g]; trivial
  have hI3 := hm _ _ _ it (Nat.le_refl _) hi2 hI hM3
  refine hold_ops okT (rs := []) rfl ?_
  simp (maxSteps := 1000000) (disch := first | omega | (simp only [sizeAlloc, sizeDrew, sizeSet, sizePut] <;> omega) | fail) only [GS, TT_eq, TTl, Nat.reduceAdd, Nat.reduceMul, Nat.reduceSub, Nat.reduceDiv, Nat.reduceMod, Nat.reducePow, Nat.reduceEqDiff, ↓reduceIte, reduceCtorEq, Int.reduceToNat, Int.reduceAdd, Int.reduceSub, Int.reduceMul]
  refine hold_entryMap rfl rfl hent3 (hold_ops okT (rs := []) rfl ?_)
  have hmem : (key, val) ∈ lm := hpm.subset (by simp)
  have hlen := hpm.length_eq
  simp only [List.length_append, List.length_cons] at hlen
  simp (maxSteps := 1000000) (disch := first | omega | (simp only [sizeAlloc, sizeDrew, sizeSet, sizePut] <;> omega) | fail) only [GS, TT_eq, TTl, Nat.reduceAdd, Nat.reduceMul, Nat.reduceSub, Nat.reduceDiv, Nat.reduceMod, Nat.reducePow, Nat.reduceEqDiff, ↓reduceIte, reduceCtorEq, Int.reduceToNat, Int.reduceAdd, Int.reduceSub, Int.reduceMul]
  refine yieldW_mono (hstep d (key, val) w3 it hI3 hmem (by omega) (Nat.le_refl _) hi3) ?_ (fun _ _ h => h.elim)
  rintro u w4 ⟨g1, g2, rfl, hI4⟩
  refine hold_ops okT (rs := []) rfl ?_
  simp (maxSteps := 1000000) (disch := first | omega | (simp only [sizeAlloc, sizeDrew, sizeSet, sizePut] <;> omega) | fail) only [GS, TT_eq, TTl, Nat.reduceAdd, Nat.reduceMul, Nat.reduceSub, Nat.reduceDiv, Nat.reduceMod, Nat.reducePow, Nat.reduceEqDiff, ↓reduceIte, reduceCtorEq, Int.reduceToNat, Int.reduceAdd, Int.reduceSub, Int.reduceMul]
  have hit4 := it_cong hit3 g1 g2
  refine ⟨⟨d ++ [(key, val)], a ++ b, hit4, ?_, hI4⟩, ?_⟩
  · refine List.Perm.trans ?_ hpm
    rw [List.append_assoc]
    exact List.Perm.append_left d (show ((key, val) :: (a ++ b)).Perm (a ++ (key, val) :: b) from List.perm_middle.symm)
  · rw [hlf, hit4.count]; simp
theorem own_nl' {w : World} {base e size n k : Nat} {v : Value} {xs : List Value} (h : w.ownsRow base e size v n xs) (ho : ∀ o, w.heap[k]? = some o → ∀ cs t fr, o ≠ .cells cs t fr) : ∀ g, v.ownBlock = some g → g ≠ k := by
  rcases h.2 with ⟨rfl, _⟩ | ⟨g, cap, cur, rfl, hb, hg, rest⟩
  · intro g hg; simp [Value.ownBlock] at hg
  · intro g' hg' e2
    simp only [Value.ownBlock, Option.some.injEq] at hg'
    subst hg' e2
    exact ho _ hg _ _ _ rfl
def unS : Value → Tm
  | .string a => a.data.toList
  | _ => []
def AsInv (n : Nat) (w0 : World) (lp : Loop) (d : List (Value × Value)) (w' : World) : Prop :=
  ∃ sv, w'.heap[n]? = some (.cells #[sv] 22 (0, 0)) ∧ w'.ownsRow (n + 3) 9 1 sv d.length (d.map (·.1)) ∧ w'.heap[n + 1]? = some (.deferred (some [])) ∧ w'.heap[n + 2]? = some (.loop lp) ∧ Mod [] w0 w' ∧ n + 3 ≤ w'.heap.size
set_option maxHeartbeats 8000000 in
theorem appseq_cps (bx mr : Nat) (lm : List (Value × Value)) (w : World) (R : Ending → World → Prop) (hbx : w.heap[bx]? = some (.cells #[.map (some mr)] 102 (0, 0))) (hmp : MapW w mr lm) (hlen : lm.length ≤ 1000000) (hks : ∀ e ∈ lm, ∃ t : Tm, e.1 = .string ⟨t.toArray⟩)
    (hR : ∀ (d : List (Value × Value)) sv w', d.Perm lm → w'.ownsRow w.heap.size 9 1 sv d.length (d.map (·.1)) → Mod [] w w' → R (.returned sv) w') :
    Calls Try.prog 116 #[.slice none 0 0, .func (.func 98) #[] #[.pointer (some ⟨bx, 0, none⟩)]] w R := by
  refine calls_go 4000 okT Try.func116 rfl (rs := [.tmp 4]) rfl Try.ntmps116 (args := [.slice none 0 0, .func (.func 98) #[] #[.pointer (some ⟨bx, 0, none⟩)]]) ?_
  simp (maxSteps := 1000000) (disch := first | omega | (simp only [sizeAlloc, sizeDrew, sizeSet, sizePut] <;> omega) | fail) only [GS, TT_eq, TTl, Nat.reduceAdd, Nat.reduceMul, Nat.reduceSub, Nat.reduceDiv, Nat.reduceMod, Nat.reducePow, Nat.reduceEqDiff, ↓reduceIte, reduceCtorEq, Int.reduceToNat, Int.reduceAdd, Int.reduceSub, Int.reduceMul]
  refine hold_rangeFunc rfl fok98 fun fid => ?_
  simp only [sizeAlloc, List.toList_toArray, List.nil_append, List.cons_append]
  have hml := hmp.lt
  have hbl := ltOf hbx
  generalize hgn : w.heap.size = n at *
  refine keys1_cps bx (n + 1 + 1) mr lm _ _ (AsInv n w _) ⟨.slice none 0 0, ?_, World.ownsRow_nil _ _ _ _, ?_, heapAe (by simp only [sizeAlloc]; omega), ?_, ?_⟩ ?_ ?_ ?_ ?_ ?_ ?_
  · (simp only [heapA, sizeAlloc]; repeat (first | rfl | rw [if_neg (by omega)] | rw [if_pos (by omega)]))
  · (simp only [heapA, sizeAlloc]; repeat (first | rfl | rw [if_neg (by omega)] | rw [if_pos (by omega)]))
  · exact (((Mod.refl _ _).alloc _).alloc _).alloc _
  · simp only [sizeAlloc]; omega
  · exact ((((Mod.refl [] w).alloc _).alloc _).alloc _).get hbx (by simp)
  · exact hmp.mod ((((Mod.refl [] w).alloc _).alloc _).alloc _) (by simp)
  · rintro d w1 w2 ⟨sv, q0, qo, q1, q2, qM, qz⟩ hM
    exact ⟨sv, hM.get q0 (by simp), ownsRow_mod qo hM (by simp), hM.get q1 (by simp), hM.get q2 (by simp), qM.trans hM (by simp), by have := hM.size; omega⟩
  · rintro d w1 w2 it hle hi ⟨sv, q0, qo, q1, q2, qM, qz⟩ hM
    simp only [sizeAlloc] at hle
    rw [hgn] at hle
    have hio := own_nl' qo (iter_cells hi)
    exact ⟨sv, hM.get q0 (by simp; omega), ownsRow_mod' qo hM (fun g hg => by simpa using hio g hg), hM.get q1 (by simp; omega), hM.get q2 (by simp; omega), qM.trans hM (by intro x hx; simp only [List.mem_singleton] at hx; subst hx; exact .inr (by omega)), by have := hM.size; omega⟩
  · rintro d w1 ⟨sv, q0, qo, q1, q2, qM, qz⟩ hp
    refine ⟨_, .normal, q2, by simp, rfl, hold_ex okT (rs := [.tmp 4]) rfl ?_⟩
    generalize hW : w1.putObj (n + 1 + 1) _ = w2
    have hM2 : Mod [n + 2] w1 w2 := by rw [← hW]; exact (Mod.refl _ _).put (.inl (by simp <;> omega)) _
    have g0 := hM2.get q0 (by simp <;> omega)
    have g1 := hM2.get q1 (by simp <;> omega)
    have hown2 := ownsRow_mod qo hM2 (by simp <;> omega)
    have hc := cellOf (o := 0) g0
    have ho := ownsRow_one qo
    simp (maxSteps := 1000000) (disch := first | omega | (simp only [sizeAlloc, sizeDrew, sizeSet, sizePut] <;> omega) | fail) only [GS, TT_eq, TTl, Nat.reduceAdd, Nat.reduceMul, Nat.reduceSub, Nat.reduceDiv, Nat.reduceMod, Nat.reducePow, Nat.reduceEqDiff, ↓reduceIte, reduceCtorEq, Int.reduceToNat, Int.reduceAdd, Int.reduceSub, Int.reduceMul, hc, cellsL_one ho, ho]
    refine ⟨_, rfl, g1, ?_⟩
    generalize hW4 : w2.putObj (n + 1) _ = w4
    have hM4 : Mod [n + 1] w2 w4 := by rw [← hW4]; exact (Mod.refl _ _).put (.inl (by simp <;> omega)) _
    have hown4 := ownsRow_mod hown2 hM4 (by simp <;> omega)
    simp (maxSteps := 1000000) only [GS, TT_eq, TTl, Nat.reduceAdd, Nat.reduceMul, Nat.reduceSub, Nat.reduceDiv, Nat.reduceMod, Nat.reducePow, Nat.reduceEqDiff, ↓reduceIte, reduceCtorEq, Int.reduceToNat, Int.reduceAdd, Int.reduceSub, Int.reduceMul, leaveW, loadW]
    exact hR d sv w4 hp (by simpa using ownsRow_base hown4 (by omega)) ((qM.trans hM2 (by simp <;> omega)).trans hM4 (by simp <;> omega))
  · rintro d e w1 it ⟨sv, q0, qo, q1, q2, qM, qz⟩ hmem hdl hle hi
    obtain ⟨t, ht⟩ := hks e hmem
    simp only [sizeAlloc] at hle
    rw [hgn] at hle
    rw [ht]
    refine yieldW_of q2 rfl (hold_code okT (rs := []) rfl ?_)
    simp (maxSteps := 1000000) (disch := first | omega | (simp only [sizeAlloc, sizeDrew, sizeSet, sizePut] <;> omega) | fail) only [GS, TT_eq, TTl, Nat.reduceAdd, Nat.reduceMul, Nat.reduceSub, Nat.reduceDiv, Nat.reduceMod, Nat.reducePow, Nat.reduceEqDiff, ↓reduceIte, reduceCtorEq, Int.reduceToNat, Int.reduceAdd, Int.reduceSub, Int.reduceMul]
    refine ⟨rfl, rfl, _, q2, rfl, hold_code okT (rs := []) rfl ?_⟩
    generalize hO : Obj.loop _ = o3
    generalize hW : w1.putObj (n + 1 + 1) o3 = w2
    have hM2 : Mod [n + 2] w1 w2 := by rw [← hW]; exact (Mod.refl _ _).put (.inl (by simp)) _
    have g0 := hM2.get q0 (by simp <;> omega)
    have g1 := hM2.get q1 (by simp <;> omega)
    have g3 : w2.heap[n + 2]? = some o3 := by rw [← hW]; exact heapPe q2
    rw [← hO] at g3
    clear hO
    have hi2 : w2.heap[it]? = w1.heap[it]? := by rw [← hW]; exact heapPn (by omega)
    have hm2 : w2.heap[mr]? = w1.heap[mr]? := by rw [← hW]; exact heapPn (by omega)
    clear hW
    have hown2 := ownsRow_mod qo hM2 (by simp <;> omega)
    have hc : w2.cell? ⟨n, 0, none⟩ = some sv := by rw [cellOf g0]; rfl
    simp (maxSteps := 1000000) (disch := first | omega | (simp only [sizeAlloc, sizeDrew, sizeSet, sizePut] <;> omega) | fail) only [GS, TT_eq, TTl, Nat.reduceAdd, Nat.reduceMul, Nat.reduceSub, Nat.reduceDiv, Nat.reduceMod, Nat.reducePow, Nat.reduceEqDiff, ↓reduceIte, reduceCtorEq, Int.reduceToNat, Int.reduceAdd, Int.reduceSub, Int.reduceMul, hc]
    refine hold_append1 okT (by rfl) (by rfl) (by rfl) (by rfl) (by rfl) _ hown2 (by rfl) (by rfl) (u := .string ⟨t.toArray⟩) (by rfl) (by simp only; omega) (by unfold maxLen; omega) (by have := hM2.size; omega) fun sv' w3 hown3 hM3 hnn => ?_
    refine hold_ops okT (rs := []) rfl ?_
    have hob : ∀ g, sv.ownBlock = some g → n + 3 ≤ g := fun g hg => (hown2.lt g hg).1
    have hoi := own_nl' (k := it) hown2 (iter_cells (by rw [hi2]; exact hi))
    have hb3 : ∀ k o, w2.heap[k]? = some o → k < n + 3 → w3.heap[k]? = some o := fun k o h hk => hM3.get h (fun hx => by
      have := hob k (by simpa using hx); omega)
    have hitl : it < w2.heap.size := by
      rw [← hi2] at hi
      cases h : w2.heap[it]? with
      | none => rw [h] at hi; exact hi.elim
      | some o => exact ltOf h
    have hi3 : w3.heap[it]? = w2.heap[it]? := hM3.block it hitl (fun hx => hoi it (by simpa using hx) rfl)
    have hm3 : w3.heap[mr]? = w2.heap[mr]? := hM3.block mr (by have := hM2.size; omega) (fun hx => by have := hob mr (by simpa using hx); omega)
    have k0 := hb3 _ _ g0 (by omega); have k1 := hb3 _ _ g1 (by omega); have k3 := hb3 _ _ g3 (by omega)
    have hc3 := cellOf (o := 0) k0
    have hf3 := frozenOf (o := 0) k0
    have ho3 := ownsRow_one hown3
    simp (maxSteps := 1000000) (disch := first | omega | (simp only [sizeAlloc, sizeDrew, sizeSet, sizePut] <;> omega) | fail) only [GS, TT_eq, TTl, Nat.reduceAdd, Nat.reduceMul, Nat.reduceSub, Nat.reduceDiv, Nat.reduceMod, Nat.reducePow, Nat.reduceEqDiff, ↓reduceIte, reduceCtorEq, Int.reduceToNat, Int.reduceAdd, Int.reduceSub, Int.reduceMul, hc3, hf3, cellsL_one ho3, ho3]
    generalize hW4 : w3.setCell ⟨n, 0, none⟩ sv' = w4
    have j0 : w4.heap[n]? = some (.cells #[sv'] 22 (0, 0)) := by rw [← hW4]; exact heapSet k0
    have hM4 : Mod [n] w3 w4 := by rw [← hW4]; exact (Mod.refl _ _).set (.inl (by simp)) _
    have hown4 := ownsRow_mod hown3 hM4 (by simp <;> omega)
    refine ⟨_, hM4.get k3 (by simp <;> omega), ?_⟩
    generalize hW5 : w4.putObj _ _ = w5
    have hM5 : Mod [n + 2] w4 w5 := by rw [← hW5]; exact (Mod.refl _ _).put (.inl (by simp)) _
    have hown5 := ownsRow_mod hown4 hM5 (by simp <;> omega)
    have hs2 := hM2.size
    have hs3 := hM3.size
    have hs4 := hM4.size
    have hs5 := hM5.size
    have hMf : Mod [] w w5 := (((qM.trans hM2 (by simp <;> omega)).trans hM3 (fun y hy => .inr (by have := hob y (by simpa using hy); omega))).trans hM4 (by simp <;> omega)).trans hM5 (by simp <;> omega)
    refine ⟨?_, ?_, rfl, sv', hM5.get j0 (by simp <;> omega), by simpa [ht] using hown5, hM5.get (hM4.get k1 (by simp <;> omega)) (by simp <;> omega), ?_, hMf, by omega⟩
    · rw [hM5.block it (by omega) (by simp; omega), hM4.block it (by omega) (by simp; omega), hi3, hi2]
    · rw [hM5.block mr (by omega) (by simp; omega), hM4.block mr (by omega) (by simp; omega), hm3, hm2]
    · rw [← hW5]; exact heapPe (hM4.get k3 (by simp <;> omega))
end Go.Proofs.Ytgopgonkchlkfaa
