/-
  know.List (walk).
-/
import Derived.Test.YtgopgonkchlkfaaKtLst1
set_option linter.unusedSimpArgs false
set_option linter.unusedVariables false
set_option maxRecDepth 20000
namespace Go.Proofs.Ytgopgonkchlkfaa
open Go Go.Wk Go.RowKit
attribute [local irreducible] go Hold
open Go.Lib Go.Shelf Go.Sort
shelf_lay Lays.n190 Nm 190 at Try as sortK
/-- Sorted. -/
def sortS (l : List Tm) : List Tm := l.mergeSort fun x y => decide (x ≤ y)
theorem sortS_perm (l : List Tm) : (sortS l).Perm l := List.mergeSort_perm l _
theorem sortS_pair (l : List Tm) : (sortS l).Pairwise fun x y => x ≤ y := by
  have := List.pairwise_mergeSort (le := fun x y : Tm => decide (x ≤ y)) (fun a b c h1 h2 => by
    simp only [decide_eq_true_eq] at h1 h2 ⊢
    exact List.le_trans h1 h2) (fun a b => by
    rcases List.le_total a b with h | h
    · simp [h]
    · simp [h]) l
  exact this.imp fun h => by simpa using h
theorem sortS_eq {l m : List Tm} (h : l.Perm m) : sortS l = sortS m :=
  List.Perm.eq_of_pairwise (fun a b _ _ h1 h2 => List.le_antisymm h1 h2) (sortS_pair l) (sortS_pair m) ((sortS_perm l).trans (h.trans (sortS_perm m).symm))
theorem sortS_is {l m : List Tm} (hp : l.Perm m) (hm : m.Pairwise fun x y => x ≤ y) : sortS l = m :=
  List.Perm.eq_of_pairwise (fun a b _ _ h1 h2 => List.le_antisymm h1 h2) (sortS_pair l) hm ((sortS_perm l).trans hp)
theorem sortS_len (l : List Tm) : (sortS l).length = l.length := (sortS_perm l).length_eq
theorem sort_cps (ss : List Tm) (sv : Value) (base : Nat) (hn : ss.length ≤ 1000000) (w : World) (h : w.ownsRow base 9 1 sv ss.length (ss.map strV)) (R : Ending → World → Prop)
    (hR : ∀ w', w'.ownsRow base 9 1 sv ss.length ((sortS ss).map strV) → Mod sv.ownBlock.toList w w' → R (.returned (.tuple #[])) w') :
    Calls Try.prog 97 #[sv] w R := by
  cases ss with
  | nil =>
    obtain ⟨a, c, rfl⟩ := (Rd.own h).slice
    refine Calls.mono (Any.slices_Sort_string_none sortK a c w) ?_
    rintro e w' ⟨rfl, rfl⟩
    exact hR _ (by rw [show sortS [] = [] by simp [sortS]]; exact h) (Mod.refl _ _)
  | cons s ss =>
    obtain ⟨h1, h2⟩ := h
    rcases h2 with ⟨_, e⟩ | ⟨g, cap, cur, rfl, hb, hg, q1, q2, q3, q4⟩
    · simp at e
    · have hH : Holds encStr w g 0 (s :: ss).toArray := holds_of_block hg (by rw [Nat.mul_one] at q4; exact q4)
      intro cs
      obtain ⟨e, w', fr, r, st, x⟩ := (AnyS.slices_Sort_string_alone sortK (cs.length + 70) g 0 cap (s :: ss) w hH (ltOf hg) (by omega)).2 cs (fun d hd => by cases hd; omega)
      refine ⟨e, w', fr, ?_, st.comes, x⟩
      obtain ⟨rfl, n, os, rfl⟩ := r
      have hgb := grownBy_sorted (w := w) (g := g) (n := n) (os := os) ((s :: ss).mergeSort fun x y => decide (x ≤ y)).toArray
      refine hR _ (ownsRow_sorted (ss := s :: ss) (ts := sortS (s :: ss)) (sortS_len _) hb hg q1 q2 q3) ?_
      obtain ⟨k1, k2, k3, k4, k5⟩ := hgb
      exact ⟨k1, k2, k3, k4, fun k hk hnn => k5 k hk (fun e => hnn (by simp only [Value.ownBlock, Option.toList_some, List.mem_singleton]; exact Option.some.inj e))⟩
theorem mkeys_cps (mr : Nat) (w : World) (R : Ending → World → Prop) (hR : ∀ w', w'.heap[w.heap.size]? = some (.cells #[.map (some mr)] 102 (0, 0)) → Mod [] w w' → R (.returned (.func (.func 98) #[] #[.pointer (some ⟨w.heap.size, 0, none⟩)])) w') :
    Calls Try.prog 71 #[.map (some mr)] w R := by
  refine calls_go 4000 okT Try.func71 rfl (rs := [.tmp 2]) rfl Try.ntmps71 (args := [.map (some mr)]) ?_
  simp (maxSteps := 1000000) (disch := first | omega | (simp only [sizeAlloc, sizeDrew, sizeSet, sizePut] <;> omega) | fail) only [GS, TT_eq, TTl, Nat.reduceAdd, Nat.reduceMul, Nat.reduceSub, Nat.reduceDiv, Nat.reduceMod, Nat.reducePow, Nat.reduceEqDiff, ↓reduceIte, reduceCtorEq, Int.reduceToNat, Int.reduceAdd, Int.reduceSub, Int.reduceMul]
  exact hR _ heapNew ((Mod.refl _ _).alloc _)
theorem EntsIn.un {w : World} : ∀ {l : List (Value × Value)} {E : List Ent}, EntsIn w l E → l.map (fun e => unS e.1) = keysE E
  | [], [], _ => rfl
  | e :: l, x :: E, ⟨⟨sv, h1, _⟩, h⟩ => by
    subst h1
    have ih := EntsIn.un h
    simp only [List.map_cons, keysE, ih]
    rfl
theorem EntsIn.str {w : World} {l : List (Value × Value)} {E : List Ent} (h : EntsIn w l E) : ∀ e ∈ l, ∃ t : Tm, e.1 = .string ⟨t.toArray⟩ := by
  intro e he
  obtain ⟨x, _, sv, rfl, _⟩ := h.mem he
  exact ⟨x.1, rfl⟩
set_option maxHeartbeats 4000000 in
theorem collect_cps (bx mr : Nat) (lm : List (Value × Value)) (w : World) (R : Ending → World → Prop) (hbx : w.heap[bx]? = some (.cells #[.map (some mr)] 102 (0, 0))) (hmp : MapW w mr lm) (hlen : lm.length ≤ 1000000) (hks : ∀ e ∈ lm, ∃ t : Tm, e.1 = .string ⟨t.toArray⟩)
    (hR : ∀ (d : List (Value × Value)) sv w', d.Perm lm → w'.ownsRow w.heap.size 9 1 sv d.length (d.map (·.1)) → Mod [] w w' → R (.returned sv) w') :
    Calls Try.prog 96 #[.func (.func 98) #[] #[.pointer (some ⟨bx, 0, none⟩)]] w R := by
  refine calls_go 4000 okT Try.func96 rfl (rs := [.tmp 2]) rfl Try.ntmps96 (args := [.func (.func 98) #[] #[.pointer (some ⟨bx, 0, none⟩)]]) ?_
  simp (maxSteps := 1000000) (disch := first | omega | (simp only [sizeAlloc, sizeDrew, sizeSet, sizePut] <;> omega) | fail) only [GS, TT_eq, TTl, Nat.reduceAdd, Nat.reduceMul, Nat.reduceSub, Nat.reduceDiv, Nat.reduceMod, Nat.reducePow, Nat.reduceEqDiff, ↓reduceIte, reduceCtorEq, Int.reduceToNat, Int.reduceAdd, Int.reduceSub, Int.reduceMul]
  refine ⟨fok116, appseq_cps bx mr lm w _ hbx hmp hlen hks fun d sv w1 hp hown hM1 => .inl ⟨_, rfl, hold_ops okT (rs := [.tmp 2]) rfl ?_⟩⟩
  simp (maxSteps := 1000000) (disch := first | omega | (simp only [sizeAlloc, sizeDrew, sizeSet, sizePut] <;> omega) | fail) only [GS, TT_eq, TTl, Nat.reduceAdd, Nat.reduceMul, Nat.reduceSub, Nat.reduceDiv, Nat.reduceMod, Nat.reducePow, Nat.reduceEqDiff, ↓reduceIte, reduceCtorEq, Int.reduceToNat, Int.reduceAdd, Int.reduceSub, Int.reduceMul]
  exact hR d _ _ hp hown hM1
set_option maxHeartbeats 4000000 in
theorem sorted_cps (bx mr : Nat) (l : List (Value × Value)) (E : List Ent) (w : World) (hbx : w.heap[bx]? = some (.cells #[.map (some mr)] 102 (0, 0))) (hmp : MapW w mr l) (hen : EntsIn w l E) (hE : E.length ≤ 100000) (R : Ending → World → Prop)
    (hR : ∀ sv w', w'.ownsRow w.heap.size 9 1 sv (sortS (keysE E)).length ((sortS (keysE E)).map strV) → Mod [] w w' → R (.returned sv) w') :
    Calls Try.prog 70 #[.func (.func 98) #[] #[.pointer (some ⟨bx, 0, none⟩)]] w R := by
  refine calls_go 4000 okT Try.func70 rfl (rs := [.tmp 2]) rfl Try.ntmps70 (args := [.func (.func 98) #[] #[.pointer (some ⟨bx, 0, none⟩)]]) ?_
  simp (maxSteps := 1000000) (disch := first | omega | (simp only [sizeAlloc, sizeDrew, sizeSet, sizePut] <;> omega) | fail) only [GS, TT_eq, TTl, Nat.reduceAdd, Nat.reduceMul, Nat.reduceSub, Nat.reduceDiv, Nat.reduceMod, Nat.reducePow, Nat.reduceEqDiff, ↓reduceIte, reduceCtorEq, Int.reduceToNat, Int.reduceAdd, Int.reduceSub, Int.reduceMul]
  have hll := hen.len
  refine ⟨fok96, collect_cps bx mr l w _ hbx hmp (by omega) hen.str fun d sv w1 hp hown hM1 => .inl ⟨_, rfl, hold_ops okT (rs := [.tmp 2]) rfl ?_⟩⟩
  have hd : d.map (·.1) = (d.map fun e => unS e.1).map strV := by
    rw [List.map_map]
    refine List.map_congr_left fun e he => ?_
    obtain ⟨t, ht⟩ := hen.str e (hp.subset he)
    simp only [Function.comp, ht]
    rfl
  have hpk : (d.map fun e => unS e.1).Perm (keysE E) := by rw [← hen.un]; exact hp.map _
  have hdl : d.length = (d.map fun e => unS e.1).length := by simp
  have hdn : d.length = E.length := by rw [hp.length_eq, hll]
  rw [hd, hdl] at hown
  have hso := sortS_eq hpk
  have hsl := sortS_len (d.map fun e => unS e.1)
  generalize d.map (fun e => unS e.1) = ks at *
  simp (maxSteps := 1000000) (disch := first | omega | (simp only [sizeAlloc, sizeDrew, sizeSet, sizePut] <;> omega) | fail) only [GS, TT_eq, TTl, Nat.reduceAdd, Nat.reduceMul, Nat.reduceSub, Nat.reduceDiv, Nat.reduceMod, Nat.reducePow, Nat.reduceEqDiff, ↓reduceIte, reduceCtorEq, Int.reduceToNat, Int.reduceAdd, Int.reduceSub, Int.reduceMul]
  refine ⟨fok97, sort_cps ks sv _ (by omega) w1 hown _ fun w2 hown2 hM2 => .inl ⟨_, rfl, hold_ops okT (rs := [.tmp 2]) rfl ?_⟩⟩
  simp (maxSteps := 1000000) (disch := first | omega | (simp only [sizeAlloc, sizeDrew, sizeSet, sizePut] <;> omega) | fail) only [GS, TT_eq, TTl, Nat.reduceAdd, Nat.reduceMul, Nat.reduceSub, Nat.reduceDiv, Nat.reduceMod, Nat.reducePow, Nat.reduceEqDiff, ↓reduceIte, reduceCtorEq, Int.reduceToNat, Int.reduceAdd, Int.reduceSub, Int.reduceMul]
  rw [hso] at hown2 hsl
  refine hR _ _ (by rw [hsl]; exact hown2) (hM1.trans hM2 fun x hx => .inr (hown.lt x (by simpa using hx)).1)
set_option maxHeartbeats 4000000 in
theorem List_cps (E : List Ent) (hE : E.length ≤ 100000) (kp mr : Nat) (w : World) (hK : KnAt w kp mr E) (R : Ending → World → Prop)
    (hR : ∀ sv w', w'.ownsRow w.heap.size 9 1 sv (sortS (keysE E)).length ((sortS (keysE E)).map strV) → Mod [] w w' → R (.returned sv) w') :
    Calls Try.prog 37 #[.pointer (some ⟨kp, 0, none⟩)] w R := by
  refine calls_go 4000 okT Try.func37 rfl (rs := [.tmp 2]) rfl Try.ntmps37 (args := [.pointer (some ⟨kp, 0, none⟩)]) ?_
  have cK : w.cell? ⟨kp, 0, none⟩ = some (.map (some mr)) := by rw [cellOf hK.1]; rfl
  obtain ⟨l, hmp, hen⟩ := id hK.2
  simp (maxSteps := 1000000) (disch := first | omega | (simp only [sizeAlloc, sizeDrew, sizeSet, sizePut] <;> omega) | fail) only [GS, TT_eq, TTl, Nat.reduceAdd, Nat.reduceMul, Nat.reduceSub, Nat.reduceDiv, Nat.reduceMod, Nat.reducePow, Nat.reduceEqDiff, ↓reduceIte, reduceCtorEq, Int.reduceToNat, Int.reduceAdd, Int.reduceSub, Int.reduceMul, cK]
  refine ⟨fok71, mkeys_cps mr w _ fun w1 hbx hM1 => .inl ⟨_, rfl, hold_ops okT (rs := [.tmp 2]) rfl ?_⟩⟩
  simp (maxSteps := 1000000) (disch := first | omega | (simp only [sizeAlloc, sizeDrew, sizeSet, sizePut] <;> omega) | fail) only [GS, TT_eq, TTl, Nat.reduceAdd, Nat.reduceMul, Nat.reduceSub, Nat.reduceDiv, Nat.reduceMod, Nat.reducePow, Nat.reduceEqDiff, ↓reduceIte, reduceCtorEq, Int.reduceToNat, Int.reduceAdd, Int.reduceSub, Int.reduceMul]
  refine ⟨fok70, sorted_cps w.heap.size mr l E w1 hbx (hmp.mod hM1 (by simp)) (hen.mod hM1 (by simp)) hE _ fun sv w2 hown hM2 => .inl ⟨_, rfl, hold_ops okT (rs := [.tmp 2]) rfl ?_⟩⟩
  simp (maxSteps := 1000000) (disch := first | omega | (simp only [sizeAlloc, sizeDrew, sizeSet, sizePut] <;> omega) | fail) only [GS, TT_eq, TTl, Nat.reduceAdd, Nat.reduceMul, Nat.reduceSub, Nat.reduceDiv, Nat.reduceMod, Nat.reducePow, Nat.reduceEqDiff, ↓reduceIte, reduceCtorEq, Int.reduceToNat, Int.reduceAdd, Int.reduceSub, Int.reduceMul]
  exact hR _ _ (ownsRow_base hown hM1.size) (hM1.trans hM2 (by simp))
end Go.Proofs.Ytgopgonkchlkfaa
