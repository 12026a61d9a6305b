/-
  The document's answer for layer 10: Learn (walk).
-/
import Derived.Test.YtgopgonkchlkfaaKtRkn3
set_option linter.unusedSimpArgs false
set_option linter.unusedVariables false
set_option maxRecDepth 20000
namespace Go.Proofs.Ytgopgonkchlkfaa
open Go Go.Wk Go.RowKit
attribute [local irreducible] go Hold
open Go.Lib
theorem strV1 {l : List Tm} : ∀ u ∈ l.map strV, u.oneCell' = true := by
  intro u hu
  obtain ⟨s, _, rfl⟩ := List.mem_map.1 hu
  rfl
set_option maxHeartbeats 8000000 in
theorem rLearn_cps (S : List Tm) (hS : ∀ s ∈ S, checkS s = 0) (b rp : Nat) (hbr : b ≤ rp) (L : List Tm) (lv : Value) (hI : RIs S L) (hF : RFin L) (t : Tm) (ht : t.length ≤ maxLen) (hU : checkS t = 0 → ((S ++ [t]).flatMap WT).length ≤ 100000) (w : World) (hK : RAt w b rp lv L) (R : Ending → World → Prop)
    (h0 : checkS t ≠ 0 → ∀ w', Mod [] w w' → R (.returned (.int .i64 2)) w')
    (h1 : checkS t = 0 → ∀ L' lv' w', RIs (S ++ [t]) L' → RFin L' → L'.length ≤ 2048 → RAt w' b rp lv' L' → Mod [rp] w w' → R (.returned (.int .i64 0)) w')
    (h2 : checkS t = 0 → ∀ L' w', RIs (S ++ [t]) L' → RFin L' → 2048 < L'.length → Mod [] w w' → R (.returned (.int .i64 4)) w') :
    Calls Try.prog 43 #[.pointer (some ⟨rp, 0, none⟩), .string ⟨t.toArray⟩] w R := by
  refine calls_go 4000 okT Try.func43 rfl (rs := [.tmp 4]) rfl Try.ntmps43 (args := [.pointer (some ⟨rp, 0, none⟩), .string ⟨t.toArray⟩]) ?_
  simp (maxSteps := 1000000) (disch := first | omega | (simp only [sizeAlloc, sizeDrew, sizeSet, sizePut] <;> omega) | fail) only [GS, TT_eq, TTl, Nat.reduceAdd, Nat.reduceMul, Nat.reduceSub, Nat.reduceDiv, Nat.reduceMod, Nat.reducePow, Nat.reduceEqDiff, ↓reduceIte, reduceCtorEq, Int.reduceToNat, Int.reduceAdd, Int.reduceSub, Int.reduceMul]
  refine ⟨fok73, rMay_cps t ht w _ fun w1 hM1 => .inl ⟨_, rfl, hold_ops okT (rs := [.tmp 4]) rfl ?_⟩⟩
  by_cases hc : checkS t = 0
  rotate_left
  · rw [decide_eq_false hc]
    simp (maxSteps := 1000000) (disch := first | omega | (simp only [sizeAlloc, sizeDrew, sizeSet, sizePut] <;> omega) | fail) only [GS, TT_eq, TTl, Nat.reduceAdd, Nat.reduceMul, Nat.reduceSub, Nat.reduceDiv, Nat.reduceMod, Nat.reducePow, Nat.reduceEqDiff, ↓reduceIte, reduceCtorEq, Int.reduceToNat, Int.reduceAdd, Int.reduceSub, Int.reduceMul]
    exact h0 hc _ hM1
  rw [decide_eq_true hc]
  have hS1 : ∀ s ∈ S ++ [t], checkS s = 0 := by intro s hs; rcases List.mem_append.1 hs with h | h; exact hS s h; simp only [List.mem_singleton] at h; rw [h]; exact hc
  have hU := hU hc
  have htl := (check0 hc).2.2.1
  have hLn : L.length ≤ 100000 := by
    have := hI.num hS
    have h2 : ((S ++ [t]).flatMap WT).length = (S.flatMap WT).length + (WT t).length := by simp
    omega
  have hK1 := hK.mod0 hM1
  have cL : w1.cell? ⟨rp, 0, none⟩ = some lv := by rw [cellOf hK1.1]; rfl
  obtain ⟨la, lc, rfl⟩ := hK1.slice
  have hbw : b ≤ w.heap.size := by have := ltOf hK.1; omega
  simp (maxSteps := 1000000) (disch := first | omega | (simp only [sizeAlloc, sizeDrew, sizeSet, sizePut] <;> omega) | fail) only [GS, TT_eq, TTl, Nat.reduceAdd, Nat.reduceMul, Nat.reduceSub, Nat.reduceDiv, Nat.reduceMod, Nat.reducePow, Nat.reduceEqDiff, ↓reduceIte, reduceCtorEq, Int.reduceToNat, Int.reduceAdd, Int.reduceSub, Int.reduceMul, cL]
  refine hold_appendR okT rfl rfl rfl rfl (by decide) w1.heap.size (World.ownsRow_nil _ _ _ _) rfl rfl (Rd.own hK1.2) strV1 (by simp only; omega) (by unfold maxLen; omega) (Nat.le_refl _) fun v2 w2 hown2 hM2 => hold_ops okT (rs := [.tmp 4]) rfl ?_
  rw [Nat.zero_add, List.nil_append] at hown2
  have hM2' : Mod [] w1 w2 := hM2.mono (by simp [Value.ownBlock])
  have hs1 := hM1.size
  have hs2 := hM2'.size
  have ho2 := ownsRow_one hown2
  simp (maxSteps := 1000000) (disch := first | omega | (simp only [sizeAlloc, sizeDrew, sizeSet, sizePut] <;> omega) | fail) only [GS, TT_eq, TTl, Nat.reduceAdd, Nat.reduceMul, Nat.reduceSub, Nat.reduceDiv, Nat.reduceMod, Nat.reducePow, Nat.reduceEqDiff, ↓reduceIte, reduceCtorEq, Int.reduceToNat, Int.reduceAdd, Int.reduceSub, Int.reduceMul, ho2, cellsL_one ho2]
  have hMb := (Mod.refl [] w2).alloc (.cells #[v2] 61)
  have hR3 : RAt (w2.alloc (.cells #[v2] 61)) w1.heap.size w2.heap.size v2 L := ⟨heapNew, ownsRow_mod hown2 hMb (by simp)⟩
  have hM03 := (hM1.trans hM2' (by simp)).trans hMb (by simp)
  generalize w2.alloc (.cells #[v2] 61) = w3 at *
  generalize hrq : w2.heap.size = rq at *
  refine ⟨fok74, rtake_cps w1.heap.size rq (by omega) t.length t (Nat.le_refl _) hc L v2 w3 _ (by omega) hR3 fun v4 w4 hR4 hG4 => .inl ⟨_, rfl, hold_ops okT (rs := [.tmp 4]) rfl ?_⟩⟩
  have hgm : ∀ {w5 : World} {u5 : Value} {n5 : Nat} {w6 : World} {u6 : Value} {n6 : Nat} {L5 : List Tm}, Mod [] w w5 → RAt w5 w1.heap.size rq u5 L5 → GrR rq w5 u5 n5 w6 u6 n6 → Mod [] w w6 := fun hM hRr hG => hM.trans hG.mod (by
    intro x hx
    simp only [List.mem_cons, Option.mem_toList] at hx
    rcases hx with rfl | hx
    · exact .inr (by omega)
    · exact .inr (by have := (hRr.2.lt x hx).1; omega))
  have hM04 := hgm hM03 hR3 hG4
  have hI4 := hI.learn hc (Nat.le_refl t.length)
  have hpre4 := (takeR_ok t.length t L hc (Nat.le_refl _)).pre
  have hK4 := hK.mod0 hM04
  have cK4 : w4.cell? ⟨rp, 0, none⟩ = some (.slice la L.length lc) := by rw [cellOf hK4.1]; rfl
  have hfin4 : L.length = (takeR t.length L t).length → RFin (takeR t.length L t) := fun e => by rw [pre_eq hpre4 e.symm]; exact hF
  have hle4 : L.length ≤ (takeR t.length L t).length := by obtain ⟨N, e⟩ := hpre4; rw [e]; simp
  generalize takeR t.length L t = L4 at *
  simp (maxSteps := 1000000) (disch := first | omega | (simp only [sizeAlloc, sizeDrew, sizeSet, sizePut] <;> omega) | fail) only [GS, TT_eq, TTl, Nat.reduceAdd, Nat.reduceMul, Nat.reduceSub, Nat.reduceDiv, Nat.reduceMod, Nat.reducePow, Nat.reduceEqDiff, ↓reduceIte, reduceCtorEq, Int.reduceToNat, Int.reduceAdd, Int.reduceSub, Int.reduceMul, cK4]
  refine hold_loop okT (rs := [.tmp 4]) rfl [6] [25, 26, 27, 28, 29, 30, 31, 32, 33, 34, 35, 36, 37, 38] (fun vs w' => ∃ (n : Nat) (L' : List Tm) (lv' : Value), vs = [.int .i64 n] ∧ RIs (S ++ [t]) L' ∧ RAt w' w1.heap.size rq lv' L' ∧ n ≤ L'.length ∧ (n = L'.length → RFin L') ∧ Mod [] w w') (fun vs _ => match vs with | [.int _ i] => 100001 - i.toNat | _ => 0) (by kernel_rfl) ⟨L.length, L4, v4, rfl, hI4, hR4, hle4, hfin4, hM04⟩ ?_
  clear hR4 hG4 hM04 hK4 cK4 hI4 hfin4 hle4 hpre4 hR3 hM03 hown2 hM2 hM2' hMb
  rintro vs w5 J ⟨n, L5, v5, rfl, hI5, hR5, hn5, hf5, hM5⟩
  have hL5 : L5.length ≤ 100000 := by have := hI5.num hS1; omega
  obtain ⟨l5, c5, rfl⟩ := hR5.slice
  have cQ : w5.cell? ⟨rq, 0, none⟩ = some (.slice l5 L5.length c5) := by rw [cellOf hR5.1]; rfl
  by_cases hlt : n < L5.length
  · simp (maxSteps := 1000000) (disch := first | omega | (simp only [sizeAlloc, sizeDrew, sizeSet, sizePut] <;> omega) | fail) only [GS, TT_eq, TTl, Nat.reduceAdd, Nat.reduceMul, Nat.reduceSub, Nat.reduceDiv, Nat.reduceMod, Nat.reducePow, Nat.reduceEqDiff, ↓reduceIte, reduceCtorEq, Int.reduceToNat, Int.reduceAdd, Int.reduceSub, Int.reduceMul, cQ]
    refine ⟨fok75, ropen_cps (S ++ [t]) w1.heap.size rq (by omega) L5 _ w5 _ hS1 hU hI5 hR5 fun L6 v6 w6 hO6 hR6 hG6 => .inl ⟨_, rfl, hold_ops okT (rs := [.tmp 4]) rfl ?_⟩⟩
    simp (maxSteps := 1000000) (disch := first | omega | (simp only [sizeAlloc, sizeDrew, sizeSet, sizePut] <;> omega) | fail) only [GS, TT_eq, TTl, Nat.reduceAdd, Nat.reduceMul, Nat.reduceSub, Nat.reduceDiv, Nat.reduceMod, Nat.reducePow, Nat.reduceEqDiff, ↓reduceIte, reduceCtorEq, Int.reduceToNat, Int.reduceAdd, Int.reduceSub, Int.reduceMul]
    refine ⟨⟨L5.length, L6, v6, rfl, hO6.is, hR6, hO6.len, fun e => ?_, hgm hM5 hR5 hG6⟩, by omega⟩
    have e2 := pre_eq hO6.pre e.symm
    rw [e2]
    exact hO6.fin e.symm
  · have e : n = L5.length := by omega
    have hfin := hf5 e
    have hK5 := hK.mod0 hM5
    have cK5 : w5.cell? ⟨rp, 0, none⟩ = some (.slice la L.length lc) := by rw [cellOf hK5.1]; rfl
    have fK5 := frozenOf (o := 0) hK5.1
    by_cases hbig : 2048 < L5.length
    · simp (maxSteps := 1000000) (disch := first | omega | (simp only [sizeAlloc, sizeDrew, sizeSet, sizePut] <;> omega) | fail) only [GS, TT_eq, TTl, Nat.reduceAdd, Nat.reduceMul, Nat.reduceSub, Nat.reduceDiv, Nat.reduceMod, Nat.reducePow, Nat.reduceEqDiff, ↓reduceIte, reduceCtorEq, Int.reduceToNat, Int.reduceAdd, Int.reduceSub, Int.reduceMul, cQ]
      exact h2 hc L5 w5 hI5 hfin hbig hM5
    · simp (maxSteps := 1000000) (disch := first | omega | (simp only [sizeAlloc, sizeDrew, sizeSet, sizePut] <;> omega) | fail) only [GS, TT_eq, TTl, Nat.reduceAdd, Nat.reduceMul, Nat.reduceSub, Nat.reduceDiv, Nat.reduceMod, Nat.reducePow, Nat.reduceEqDiff, ↓reduceIte, reduceCtorEq, Int.reduceToNat, Int.reduceAdd, Int.reduceSub, Int.reduceMul, cQ, cK5, fK5]
      have hMs := (Mod.refl [rp] w5).set (p := ⟨rp, 0, none⟩) (.inl (by simp)) (.slice l5 L5.length c5)
      have hne := own_ne hR5.2 hK5.1 (by decide)
      exact h1 hc L5 _ _ hI5 hfin (by omega) ⟨heapSet (o := 0) (v := .slice l5 L5.length c5) hK5.1, ownsRow_base (ownsRow_mod' hR5.2 hMs fun g hg => by simpa using hne g hg) (by omega)⟩ ((hM5.mono (by simp)).trans hMs (fun x hx => .inl hx))
end Go.Proofs.Ytgopgonkchlkfaa
