/-
  The law PeerOnce (the walk).
-/
import Derived.Test.YtechabbdobbooaaPeer4
import Derived.Test.YtechabbdobbooaaPeerE
set_option linter.unusedSimpArgs false
set_option linter.unusedVariables false
namespace Go.Proofs.Ytechabbdobbooaa
open Go Go.Wk Go.RowKit
attribute [local irreducible] go Hold
def OnceI (w : World) (nl k : Nat) (vs : List Value) (w' : World) : Prop :=
  ∃ (own left : Int) (pb wb : Nat) (s : PS) (xs : List Tri) (sv : Value), vs = [.int .i64 own, .int .i64 left, .pointer (some ⟨pb, 0, none⟩), sv, .int .i64 k] ∧ xs.length ≤ k ∧ own ≤ nl + 1 ∧ 0 ≤ left ∧ left ≤ 20 ∧
    PInv own s xs ∧ isPeer w' pb wb s ∧ w.heap.size ≤ pb ∧ w.heap.size ≤ wb ∧ w'.ownsRow w.heap.size 37 4 sv xs.length (xs.flatMap triC) ∧ Mod [] w w'
set_option maxRecDepth 20000 in
set_option maxHeartbeats 8000000 in
theorem ponce_cps (sa sl : Value) (lives : List Int) (l : List Stp) (w : World) (R : Ending → World → Prop) (ha : Rd w 1 sa lives.length (lives.map (Value.int .u8))) (hl : Rd w 4 sl l.length (l.flatMap stpC)) (hb : ∀ x ∈ lives, 0 ≤ x ∧ x ≤ 255)
    (hx : l.length ≤ 9223372036854775807) (hy : lives.length ≤ 9223372036854775807)
    (hR : ∀ w', Mod [] w w' → R (.returned (.bool true)) w') : Calls Try.prog 4 #[sa, sl] w R := by
  obtain ⟨a1, c1, rfl⟩ := ha.slice
  obtain ⟨a2, c2, rfl⟩ := hl.slice
  by_cases h250 : 250 < l.length
  · refine calls_go 4000 okT Try.func4 rfl (rs := [.tmp 4]) rfl Try.ntmps4 (args := [.slice a1 lives.length c1, .slice a2 l.length c2]) ?_
    simp (disch := first | omega | (simp only [sizeAlloc, sizeDrew, sizeSet, sizePut]; omega) | fail) only [GS1, GS2, GS3, GS4, GS5, GS6, GS7, GS8, GS9, GS10, TT_eq, TTl, Nat.reduceAdd, Nat.reduceMul, Nat.reduceSub, Nat.reduceDiv, Nat.reduceMod, Nat.reducePow, Nat.reduceEqDiff, ↓reduceIte, reduceCtorEq, true_and, and_true, and_self, false_and, and_false, Int.reduceToNat, Int.reduceAdd, Int.reduceSub, Int.reduceMul, cond_true, cond_false, List.toList_toArray, Option.map_some, Option.map_none, Option.some.injEq, List.cons_append, List.nil_append]
    refine ⟨fok11, palive_cps _ _ fun w1 hM => .inl ⟨_, rfl, hold_ops okT (rs := [.tmp 4]) rfl ?_⟩⟩
    simp (disch := first | omega | (simp only [sizeAlloc, sizeDrew, sizeSet, sizePut]; omega) | fail) only [GS1, GS2, GS3, GS4, GS5, GS6, GS7, GS8, GS9, GS10, TT_eq, TTl, Nat.reduceAdd, Nat.reduceMul, Nat.reduceSub, Nat.reduceDiv, Nat.reduceMod, Nat.reducePow, Nat.reduceEqDiff, ↓reduceIte, reduceCtorEq, true_and, and_true, and_self, false_and, and_false, Int.reduceToNat, Int.reduceAdd, Int.reduceSub, Int.reduceMul, cond_true, cond_false, List.toList_toArray, Option.map_some, Option.map_none, Option.some.injEq, List.cons_append, List.nil_append]
    exact hR _ hM
  by_cases h60 : 60 < lives.length
  · refine calls_go 4000 okT Try.func4 rfl (rs := [.tmp 4]) rfl Try.ntmps4 (args := [.slice a1 lives.length c1, .slice a2 l.length c2]) ?_
    simp (disch := first | omega | (simp only [sizeAlloc, sizeDrew, sizeSet, sizePut]; omega) | fail) only [GS1, GS2, GS3, GS4, GS5, GS6, GS7, GS8, GS9, GS10, TT_eq, TTl, Nat.reduceAdd, Nat.reduceMul, Nat.reduceSub, Nat.reduceDiv, Nat.reduceMod, Nat.reducePow, Nat.reduceEqDiff, ↓reduceIte, reduceCtorEq, true_and, and_true, and_self, false_and, and_false, Int.reduceToNat, Int.reduceAdd, Int.reduceSub, Int.reduceMul, cond_true, cond_false, List.toList_toArray, Option.map_some, Option.map_none, Option.some.injEq, List.cons_append, List.nil_append]
    refine ⟨fok11, palive_cps _ _ fun w1 hM => .inl ⟨_, rfl, hold_ops okT (rs := [.tmp 4]) rfl ?_⟩⟩
    simp (disch := first | omega | (simp only [sizeAlloc, sizeDrew, sizeSet, sizePut]; omega) | fail) only [GS1, GS2, GS3, GS4, GS5, GS6, GS7, GS8, GS9, GS10, TT_eq, TTl, Nat.reduceAdd, Nat.reduceMul, Nat.reduceSub, Nat.reduceDiv, Nat.reduceMod, Nat.reducePow, Nat.reduceEqDiff, ↓reduceIte, reduceCtorEq, true_and, and_true, and_self, false_and, and_false, Int.reduceToNat, Int.reduceAdd, Int.reduceSub, Int.reduceMul, cond_true, cond_false, List.toList_toArray, Option.map_some, Option.map_none, Option.some.injEq, List.cons_append, List.nil_append]
    exact hR _ hM
  refine calls_go 4000 okT Try.func4 rfl (rs := [.tmp 4]) rfl Try.ntmps4 (args := [.slice a1 lives.length c1, .slice a2 l.length c2]) ?_
  simp (disch := first | omega | (simp only [sizeAlloc, sizeDrew, sizeSet, sizePut]; omega) | fail) only [GS1, GS2, GS3, GS4, GS5, GS6, GS7, GS8, GS9, GS10, TT_eq, TTl, Nat.reduceAdd, Nat.reduceMul, Nat.reduceSub, Nat.reduceDiv, Nat.reduceMod, Nat.reducePow, Nat.reduceEqDiff, ↓reduceIte, reduceCtorEq, true_and, and_true, and_self, false_and, and_false, Int.reduceToNat, Int.reduceAdd, Int.reduceSub, Int.reduceMul, cond_true, cond_false, List.toList_toArray, Option.map_some, Option.map_none, Option.some.injEq, List.cons_append, List.nil_append]
  refine ⟨fok12, PNew_ok 1 _ _ (by decide) fun w1 pb wb hp hq k0 hM0 => .inl ⟨_, rfl, hold_ops okT (rs := [.tmp 4]) rfl ?_⟩⟩
  simp (disch := first | omega | (simp only [sizeAlloc, sizeDrew, sizeSet, sizePut]; omega) | fail) only [GS1, GS2, GS3, GS4, GS5, GS6, GS7, GS8, GS9, GS10, TT_eq, TTl, Nat.reduceAdd, Nat.reduceMul, Nat.reduceSub, Nat.reduceDiv, Nat.reduceMod, Nat.reducePow, Nat.reduceEqDiff, ↓reduceIte, reduceCtorEq, true_and, and_true, and_self, false_and, and_false, Int.reduceToNat, Int.reduceAdd, Int.reduceSub, Int.reduceMul, cond_true, cond_false, List.toList_toArray, Option.map_some, Option.map_none, Option.some.injEq, List.cons_append, List.nil_append]
  refine hold_stop (s' := some 17) ?_
  refine hold_loop okT (rs := [.tmp 4]) rfl [5, 6, 7, 9, 10] [4, 8, 11, 12, 33, 34, 35, 36, 37, 38, 39, 40, 41, 42, 43, 44, 45, 46, 47, 48, 49, 50, 51, 52, 53, 54, 55, 56, 57, 58, 59, 60, 61, 62, 63, 64, 65, 66, 67, 68, 69, 70, 71, 72, 73, 74, 75, 76, 77, 78, 79, 80, 81, 82, 83, 84, 85, 86, 87, 88, 89, 90, 91, 92, 93, 94, 95, 96, 97, 98, 99, 100, 101, 102, 103, 104, 105, 106, 107, 108, 109, 110, 111, 112, 113, 114, 115, 116, 117, 118, 119, 120, 121, 122, 123, 124, 125, 126, 127, 128, 129] (fun vs w' => ∃ k, k ≤ l.length ∧ OnceI w lives.length k vs w') (fun vs _ => match vs with | [_, _, _, _, .int _ i] => l.length - i.toNat | _ => 0) (by kernel_rfl)
    ⟨0, by omega, 1, 0, pb, wb, newS 1, [], _, rfl, by simp, by omega, by omega, by omega, PInv.nil, k0, hp, hq, World.ownsRow_nil _ _ _ _, hM0⟩ ?_
  clear k0 hM0 hp hq
  rintro vs w' J ⟨k, hk, own, left, pb, wb, s, xs, sv, rfl, hxs, hown, hleft, hleft2, hinv, hpeer, hp, hq, hrow, hM⟩
  by_cases hlt : k < l.length
  · apply share
    case h =>
      intro hq
      have ho1 := hinv.own1
      by_cases hA : ¬ (left = 0 ∧ own ≤ lives.length)
      · by_cases hl0 : left = 0
        · have hA2 : ¬ own ≤ lives.length := fun h => hA ⟨hl0, h⟩
          simp (disch := first | omega | (simp only [sizeAlloc, sizeDrew, sizeSet, sizePut]; omega) | fail) only [GS1, GS2, GS3, GS4, GS5, GS6, GS7, GS8, GS9, GS10, TT_eq, TTl, Nat.reduceAdd, Nat.reduceMul, Nat.reduceSub, Nat.reduceDiv, Nat.reduceMod, Nat.reducePow, Nat.reduceEqDiff, ↓reduceIte, reduceCtorEq, true_and, and_true, and_self, false_and, and_false, Int.reduceToNat, Int.reduceAdd, Int.reduceSub, Int.reduceMul, cond_true, cond_false, List.toList_toArray, Option.map_some, Option.map_none, Option.some.injEq, List.cons_append, List.nil_append]
          refine join_self [5, 6, 7, 9, 10] [4, 8, 11, 12, 33, 34, 35, 36, 37, 38, 39, 40, 41, 42, 43, 44, 45, 46, 47, 48, 49, 50, 51, 52, 53, 54, 55, 56, 57, 58, 59, 60, 61, 62, 63, 64, 65, 66, 67, 68, 69, 70, 71, 72, 73, 74, 75, 76, 77, 78, 79, 80, 81, 82, 83, 84, 85, 86, 87, 88, 89, 90, 91, 92, 93, 94, 95, 96, 97, 98, 99, 100, 101, 102, 103, 104, 105, 106, 107, 108, 109, 110, 111, 112, 113, 114, 115, 116, 117, 118, 119, 120, 121, 122, 123, 124, 125, 126, 127, 128, 129] (OnceI w lives.length k) hq (by kernel_rfl) ⟨own, left, pb, wb, s, xs, sv, rfl, hxs, hown, hleft, hleft2, hinv, hpeer, hp, ?_, hrow, hM⟩
          assumption
        · simp (disch := first | omega | (simp only [sizeAlloc, sizeDrew, sizeSet, sizePut]; omega) | fail) only [GS1, GS2, GS3, GS4, GS5, GS6, GS7, GS8, GS9, GS10, TT_eq, TTl, Nat.reduceAdd, Nat.reduceMul, Nat.reduceSub, Nat.reduceDiv, Nat.reduceMod, Nat.reducePow, Nat.reduceEqDiff, ↓reduceIte, reduceCtorEq, true_and, and_true, and_self, false_and, and_false, Int.reduceToNat, Int.reduceAdd, Int.reduceSub, Int.reduceMul, cond_true, cond_false, List.toList_toArray, Option.map_some, Option.map_none, Option.some.injEq, List.cons_append, List.nil_append]
          refine join _ [5, 6, 7, 9, 10] [4, 8, 11, 12, 33, 34, 35, 36, 37, 38, 39, 40, 41, 42, 43, 44, 45, 46, 47, 48, 49, 50, 51, 52, 53, 54, 55, 56, 57, 58, 59, 60, 61, 62, 63, 64, 65, 66, 67, 68, 69, 70, 71, 72, 73, 74, 75, 76, 77, 78, 79, 80, 81, 82, 83, 84, 85, 86, 87, 88, 89, 90, 91, 92, 93, 94, 95, 96, 97, 98, 99, 100, 101, 102, 103, 104, 105, 106, 107, 108, 109, 110, 111, 112, 113, 114, 115, 116, 117, 118, 119, 120, 121, 122, 123, 124, 125, 126, 127, 128, 129] (OnceI w lives.length k) hq (by kernel_rfl) ⟨own, left, pb, wb, s, xs, sv, rfl, hxs, hown, hleft, hleft2, hinv, hpeer, hp, ?_, hrow, hM⟩
          assumption
      · have hA : left = 0 ∧ own ≤ lives.length := Decidable.not_not.1 hA
        obtain ⟨rfl, hA2⟩ := hA
        obtain ⟨i, rfl⟩ : ∃ i : Nat, own = (i : Int) + 1 := ⟨(own - 1).toNat, by omega⟩
        have hi : i < lives.length := by omega
        obtain ⟨b1, o1, c3, e1, _, g1⟩ := (ha.mod hM (by simp)).at (by omega) (by omega)
        have f1 : w'.cell? ⟨b1, o1 + i, none⟩ = some (.int .u8 lives[i]) := g1 i _ (by simp [hi])
        rw [Value.slice.injEq] at e1
        obtain ⟨rfl, -, -⟩ := e1
        have hb1 := hb _ (List.getElem_mem hi)
        have ht0 : 0 ≤ lives[i].tmod 20 := Int.tmod_nonneg _ hb1.1
        have ht1 : lives[i].tmod 20 < 20 := Int.tmod_lt_of_pos _ (by omega)
        simp (disch := first | omega | (simp only [sizeAlloc, sizeDrew, sizeSet, sizePut]; omega) | fail) only [GS1, GS2, GS3, GS4, GS5, GS6, GS7, GS8, GS9, GS10, TT_eq, TTl, Nat.reduceAdd, Nat.reduceMul, Nat.reduceSub, Nat.reduceDiv, Nat.reduceMod, Nat.reducePow, Nat.reduceEqDiff, ↓reduceIte, reduceCtorEq, true_and, and_true, and_self, false_and, and_false, Int.reduceToNat, Int.reduceAdd, Int.reduceSub, Int.reduceMul, cond_true, cond_false, List.toList_toArray, Option.map_some, Option.map_none, Option.some.injEq, List.cons_append, List.nil_append, f1, Int.add_sub_cancel]
        refine ⟨fok12, PNew_ok _ _ _ ⟨by omega, by omega⟩ fun w2 pb2 wb2 hp2 hq2 k2 hM2 => .inl ⟨_, rfl, hold_ops okT (rs := [.tmp 4]) rfl ?_⟩⟩
        simp (disch := first | omega | (simp only [sizeAlloc, sizeDrew, sizeSet, sizePut]; omega) | fail) only [GS1, GS2, GS3, GS4, GS5, GS6, GS7, GS8, GS9, GS10, TT_eq, TTl, Nat.reduceAdd, Nat.reduceMul, Nat.reduceSub, Nat.reduceDiv, Nat.reduceMod, Nat.reducePow, Nat.reduceEqDiff, ↓reduceIte, reduceCtorEq, true_and, and_true, and_self, false_and, and_false, Int.reduceToNat, Int.reduceAdd, Int.reduceSub, Int.reduceMul, cond_true, cond_false, List.toList_toArray, Option.map_some, Option.map_none, Option.some.injEq, List.cons_append, List.nil_append]
        have hz := hM.size
        exact join _ [5, 6, 7, 9, 10] [4, 8, 11, 12, 33, 34, 35, 36, 37, 38, 39, 40, 41, 42, 43, 44, 45, 46, 47, 48, 49, 50, 51, 52, 53, 54, 55, 56, 57, 58, 59, 60, 61, 62, 63, 64, 65, 66, 67, 68, 69, 70, 71, 72, 73, 74, 75, 76, 77, 78, 79, 80, 81, 82, 83, 84, 85, 86, 87, 88, 89, 90, 91, 92, 93, 94, 95, 96, 97, 98, 99, 100, 101, 102, 103, 104, 105, 106, 107, 108, 109, 110, 111, 112, 113, 114, 115, 116, 117, 118, 119, 120, 121, 122, 123, 124, 125, 126, 127, 128, 129] (OnceI w lives.length k) hq (by kernel_rfl) ⟨(i : Int) + 1 + 1, _, pb2, wb2, _, xs, sv, rfl, hxs, by omega, by omega, by omega, hinv.new, k2, by omega, by omega, ownsRow_mod hrow hM2 (by simp), hM.trans hM2 (by simp)⟩
    case hQ =>
      rintro vs w' J ⟨own, left, pb, wb, s, xs, sv, rfl, hxs, hown, hleft, hleft2, hinv, hpeer, hp, hq, hrow, hM⟩
      refine hold_stop (s' := none) ?_
      refine hold_code okT (rs := [.tmp 4]) rfl ?_
      simp (disch := first | omega | (simp only [sizeAlloc, sizeDrew, sizeSet, sizePut]; omega) | fail) only [GS1, GS2, GS3, GS4, GS5, GS6, GS7, GS8, GS9, GS10, TT_eq, TTl, Nat.reduceAdd, Nat.reduceMul, Nat.reduceSub, Nat.reduceDiv, Nat.reduceMod, Nat.reducePow, Nat.reduceEqDiff, ↓reduceIte, reduceCtorEq, true_and, and_true, and_self, false_and, and_false, Int.reduceToNat, Int.reduceAdd, Int.reduceSub, Int.reduceMul, cond_true, cond_false, List.toList_toArray, Option.map_some, Option.map_none, Option.some.injEq, List.cons_append, List.nil_append]
      obtain ⟨b2, o2, c4, e2, _, g2⟩ := (hl.mod hM (by simp)).at (by omega) (by omega)
      have hfl := fun j hj => flat_get stpC 4 (fun _ => rfl) l k hlt j hj
      have f0 : w'.cell? ⟨b2, o2 + k * 4, none⟩ = _ := g2 (k * 4) _ ((hfl 0 (by omega)).trans rfl)
      have f1 : w'.cell? ⟨b2, o2 + k * 4 + 1, none⟩ = _ := g2 (k * 4 + 1) _ ((hfl 1 (by omega)).trans rfl)
      have f2 : w'.cell? ⟨b2, o2 + k * 4 + 2, none⟩ = _ := g2 (k * 4 + 2) _ ((hfl 2 (by omega)).trans rfl)
      have f3 : w'.cell? ⟨b2, o2 + k * 4 + 3, none⟩ = _ := g2 (k * 4 + 3) _ ((hfl 3 (by omega)).trans rfl)
      rw [Value.slice.injEq] at e2
      obtain ⟨rfl, -, -⟩ := e2
      have hb2 : b2 < w'.heap.size := World.block_lt_of_cell? w' _ f0
      have hxb : ((((((w'.alloc (.cells #[.int .u8 0, .int .i64 0, .int .i64 0, .int .i64 0] 37)).setCell ⟨w'.heap.size, 0, none⟩ (.int .u8 0)).setCell ⟨w'.heap.size, 1, none⟩ (.int .i64 l[k].a)).setCell ⟨w'.heap.size, 2, none⟩ (.int .i64 l[k].b)).setCell ⟨w'.heap.size, 3, none⟩ (.int .i64 l[k].n)).drewN 1).heap[w'.heap.size]? = some (.cells #[.int .u8 0, .int .i64 l[k].a, .int .i64 l[k].b, .int .i64 l[k].n] 37 (0, 0)) :=
        heapSet (heapSet (heapSet (heapSet heapNew)))
      have hMx : Mod [] w' ((((((w'.alloc (.cells #[.int .u8 0, .int .i64 0, .int .i64 0, .int .i64 0] 37)).setCell ⟨w'.heap.size, 0, none⟩ (.int .u8 0)).setCell ⟨w'.heap.size, 1, none⟩ (.int .i64 l[k].a)).setCell ⟨w'.heap.size, 2, none⟩ (.int .i64 l[k].b)).setCell ⟨w'.heap.size, 3, none⟩ (.int .i64 l[k].n)).drewN 1) :=
        ((((((Mod.refl _ _).alloc _).set (.inr (by simp)) _).set (.inr (by simp)) _).set (.inr (by simp)) _).set (.inr (by simp)) _).drewN 1
      have hzw := hM.size
      by_cases hd1 : l[k].d = 1
      · refine hold_draw okT (rs := [.tmp 4]) rfl [0, 0, 3, 7, 15, 0, 0, 96, 224, 480, 0, 0, 3072, 7168, 15360, 32767, 0, 131071] [0, 1, 2, 3, 4, 5, 6, 7, 8, 9, 10, 11, 12, 13, 14, 15, 16, 17] (by kernel_rfl) (by kernel_rfl) ?_
        simp (disch := first | omega | (simp only [sizeAlloc, sizeDrew, sizeSet, sizePut]; omega) | fail) only [GS1, GS2, GS3, GS4, GS5, GS6, GS7, GS8, GS9, GS10, TT_eq, TTl, Nat.reduceAdd, Nat.reduceMul, Nat.reduceSub, Nat.reduceDiv, Nat.reduceMod, Nat.reducePow, Nat.reduceEqDiff, ↓reduceIte, reduceCtorEq, true_and, and_true, and_self, false_and, and_false, Int.reduceToNat, Int.reduceAdd, Int.reduceSub, Int.reduceMul, cond_true, cond_false, List.toList_toArray, Option.map_some, Option.map_none, Option.some.injEq, List.cons_append, List.nil_append, f1, f2, f3, f0]
        generalize ((((((w'.alloc (.cells #[.int .u8 0, .int .i64 0, .int .i64 0, .int .i64 0] 37)).setCell ⟨w'.heap.size, 0, none⟩ (.int .u8 0)).setCell ⟨w'.heap.size, 1, none⟩ (.int .i64 l[k].a)).setCell ⟨w'.heap.size, 2, none⟩ (.int .i64 l[k].b)).setCell ⟨w'.heap.size, 3, none⟩ (.int .i64 l[k].n)).drewN 1) = w1 at hxb hMx ⊢
        refine ⟨fok13, Hear_all pb wb s _ _ _ (hpeer.mod hMx (by simp) (by simp)) fun w2 wb2 hwb k2 hM2 => .inl ⟨_, rfl, hold_ops okT (rs := [.tmp 4]) rfl ?_⟩⟩
        simp (disch := first | omega | (simp only [sizeAlloc, sizeDrew, sizeSet, sizePut]; omega) | fail) only [GS1, GS2, GS3, GS4, GS5, GS6, GS7, GS8, GS9, GS10, TT_eq, TTl, Nat.reduceAdd, Nat.reduceMul, Nat.reduceSub, Nat.reduceDiv, Nat.reduceMod, Nat.reducePow, Nat.reduceEqDiff, ↓reduceIte, reduceCtorEq, true_and, and_true, and_self, false_and, and_false, Int.reduceToNat, Int.reduceAdd, Int.reduceSub, Int.reduceMul, cond_true, cond_false, List.toList_toArray, Option.map_some, Option.map_none, Option.some.injEq, List.cons_append, List.nil_append]
        have hz1 := hMx.size
        refine ⟨⟨k + 1, by omega, own, _, pb, wb2, _, xs, sv, rfl, by omega, hown, ?_, ?_, hinv.hearT _, k2, hp, by omega, ?_, (hM.trans hMx (by simp)).trans hM2 (by simp; omega)⟩, by omega⟩
        · omega
        · omega
        · refine ownsRow_mod' (ownsRow_mod hrow hMx (by simp)) hM2 fun g hg => ?_
          have := own_ne hrow hpeer.2.1 (by decide) g hg
          simpa using this
      · by_cases hd0 : l[k].d = 0
        · refine hold_draw okT (rs := [.tmp 4]) rfl [0, 0, 3, 7, 15, 0, 0, 96, 224, 480, 0, 0, 3072, 7168, 15360, 32767, 0, 131071] [0, 1, 2, 3, 4, 5, 6, 7, 8, 9, 10, 11, 12, 13, 14, 15, 16, 17] (by kernel_rfl) (by kernel_rfl) ?_
          simp (disch := first | omega | (simp only [sizeAlloc, sizeDrew, sizeSet, sizePut]; omega) | fail) only [GS1, GS2, GS3, GS4, GS5, GS6, GS7, GS8, GS9, GS10, TT_eq, TTl, Nat.reduceAdd, Nat.reduceMul, Nat.reduceSub, Nat.reduceDiv, Nat.reduceMod, Nat.reducePow, Nat.reduceEqDiff, ↓reduceIte, reduceCtorEq, true_and, and_true, and_self, false_and, and_false, Int.reduceToNat, Int.reduceAdd, Int.reduceSub, Int.reduceMul, cond_true, cond_false, List.toList_toArray, Option.map_some, Option.map_none, Option.some.injEq, List.cons_append, List.nil_append, f1, f2, f3, f0]
          generalize ((((((w'.alloc (.cells #[.int .u8 0, .int .i64 0, .int .i64 0, .int .i64 0] 37)).setCell ⟨w'.heap.size, 0, none⟩ (.int .u8 0)).setCell ⟨w'.heap.size, 1, none⟩ (.int .i64 l[k].a)).setCell ⟨w'.heap.size, 2, none⟩ (.int .i64 l[k].b)).setCell ⟨w'.heap.size, 3, none⟩ (.int .i64 l[k].n)).drewN 1) = w1 at hxb hMx ⊢
          generalize l[k].a = xa at *
          generalize l[k].b = xb at *
          generalize l[k].n = xn at *
          have hz1 := hMx.size
          have hpl := ltOf hpeer.2.1; have hwl := ltOf hpeer.2.2
          refine ⟨fok14, PTake_cps pb wb s _ _ _ _ _ hinv.w (hpeer.mod hMx (by simp) (by simp)) fun w2 wb2 hwb k2 hM2 => .inl ⟨_, rfl, hold_ops okT (rs := [.tmp 4]) rfl ?_⟩⟩
          have hrow1 := ownsRow_mod hrow hMx (by simp)
          have hrow2 := ownsRow_mod' hrow1 hM2 fun g hg => by
            have := own_ne hrow hpeer.2.1 (by decide) g hg; have := own_ne hrow hpeer.2.2 (by decide) g hg; simp; omega
          have hM3 := (hM.trans hMx (by simp)).trans hM2 (by simp; omega)
          have hxb2 := hM2.get hxb (by simp; omega)
          have hz2 := hM2.size
          by_cases hc : takeC s xa xb xn = 0
          · obtain ⟨hnot, hinv2⟩ := hinv.take hc
            obtain ⟨a3, c5, rfl⟩ := (Rd.own hrow2).slice
            simp (disch := first | omega | (simp only [sizeAlloc, sizeDrew, sizeSet, sizePut]; omega) | fail) only [GS1, GS2, GS3, GS4, GS5, GS6, GS7, GS8, GS9, GS10, TT_eq, TTl, Nat.reduceAdd, Nat.reduceMul, Nat.reduceSub, Nat.reduceDiv, Nat.reduceMod, Nat.reducePow, Nat.reduceEqDiff, ↓reduceIte, reduceCtorEq, true_and, and_true, and_self, false_and, and_false, Int.reduceToNat, Int.reduceAdd, Int.reduceSub, Int.reduceMul, cond_true, cond_false, List.toList_toArray, Option.map_some, Option.map_none, Option.some.injEq, List.cons_append, List.nil_append]
            refine hold_loop okT (rs := [.tmp 4]) rfl [12] [4, 114, 115, 116, 117, 118, 119, 120, 121, 122, 123, 124, 125] (fun vs w'' => ∃ (j n : Nat), j ≤ xs.length ∧ vs = [.int .i64 j] ∧ w'' = w2.drewN n)
              (fun vs _ => match vs with | [.int _ i] => xs.length - i.toNat | _ => 0) (by kernel_rfl) ⟨0, 0, by omega, rfl, rfl⟩ ?_
            rintro vs w'' J ⟨j, n, hj, rfl, rfl⟩
            have d0 := cellOf (o := 0) hxb2; have d1 := cellOf (o := 1) hxb2; have d2 := cellOf (o := 2) hxb2; have d3 := cellOf (o := 3) hxb2
            by_cases hjl : j < xs.length
            · obtain ⟨b4, o4, c6, e4, _, g4⟩ := (Rd.own hrow2).at (by omega) (by omega)
              have hfl := fun i hi => flat_get triC 4 (fun _ => rfl) xs j hjl i hi
              have r0 : w2.cell? ⟨b4, o4 + j * 4, none⟩ = _ := g4 (j * 4) _ ((hfl 0 (by omega)).trans rfl)
              have r1 : w2.cell? ⟨b4, o4 + j * 4 + 1, none⟩ = _ := g4 (j * 4 + 1) _ ((hfl 1 (by omega)).trans rfl)
              have r2 : w2.cell? ⟨b4, o4 + j * 4 + 2, none⟩ = _ := g4 (j * 4 + 2) _ ((hfl 2 (by omega)).trans rfl)
              have r3 : w2.cell? ⟨b4, o4 + j * 4 + 3, none⟩ = _ := g4 (j * 4 + 3) _ ((hfl 3 (by omega)).trans rfl)
              rw [Value.slice.injEq] at e4
              obtain ⟨rfl, -, -⟩ := e4
              have hne : bnd (decide (xs[j].1 = xa)) (bnd (decide (xs[j].2.1 = xb)) (bnd (decide (xs[j].2.2 = xn)) true)) = false := by
                simp only [bnd_eq, Bool.and_true]
                rw [Bool.eq_false_iff]
                intro h
                simp only [Bool.and_eq_true, decide_eq_true_eq] at h
                exact hnot (by rw [← h.1, ← h.2.1, ← h.2.2]; exact List.getElem_mem hjl)
              simp (disch := first | omega | (simp only [sizeAlloc, sizeDrew, sizeSet, sizePut]; omega) | fail) only [GS1, GS2, GS3, GS4, GS5, GS6, GS7, GS8, GS9, GS10, TT_eq, TTl, Nat.reduceAdd, Nat.reduceMul, Nat.reduceSub, Nat.reduceDiv, Nat.reduceMod, Nat.reducePow, Nat.reduceEqDiff, ↓reduceIte, reduceCtorEq, true_and, and_true, and_self, false_and, and_false, Int.reduceToNat, Int.reduceAdd, Int.reduceSub, Int.reduceMul, cond_true, cond_false, List.toList_toArray, Option.map_some, Option.map_none, Option.some.injEq, List.cons_append, List.nil_append, r0, r1, r2, r3, d0, d1, d2, d3, hne]
              refine ⟨by kernel_rfl, fun m => ⟨⟨j + 1, n + m, by omega, rfl, rfl⟩, by omega⟩⟩
            · have e : j = xs.length := by omega
              subst e
              simp (disch := first | omega | (simp only [sizeAlloc, sizeDrew, sizeSet, sizePut]; omega) | fail) only [GS1, GS2, GS3, GS4, GS5, GS6, GS7, GS8, GS9, GS10, TT_eq, TTl, Nat.reduceAdd, Nat.reduceMul, Nat.reduceSub, Nat.reduceDiv, Nat.reduceMod, Nat.reducePow, Nat.reduceEqDiff, ↓reduceIte, reduceCtorEq, true_and, and_true, and_self, false_and, and_false, Int.reduceToNat, Int.reduceAdd, Int.reduceSub, Int.reduceMul, cond_true, cond_false, List.toList_toArray, Option.map_some, Option.map_none, Option.some.injEq, List.cons_append, List.nil_append, d0, d1, d2, d3]
              rw [← drewAlloc]
              have hown3 : (w2.drewN n).ownsRow w.heap.size 37 4 _ xs.length (xs.flatMap triC) := hrow2
              refine hold_appendN okT (by rfl) (by rfl) (by rfl) (by rfl) (by decide) _ hown3 (by rfl) (by rfl) (by rfl) (by omega) (by intro u hu; simp at hu; rcases hu with rfl | rfl | rfl | rfl <;> rfl) (Nat.le_trans (Nat.mul_le_mul_right _ (show xs.length + 1 ≤ 251 by omega)) (by decide)) (by unfold maxLen; omega) (by show w.heap.size ≤ w2.heap.size; omega) fun sv' w4 hown4 hM4 hnn => ?_
              refine hold_ops okT (rs := [.tmp 4]) rfl ?_
              simp (disch := first | omega | (simp only [sizeAlloc, sizeDrew, sizeSet, sizePut]; omega) | fail) only [GS1, GS2, GS3, GS4, GS5, GS6, GS7, GS8, GS9, GS10, TT_eq, TTl, Nat.reduceAdd, Nat.reduceMul, Nat.reduceSub, Nat.reduceDiv, Nat.reduceMod, Nat.reducePow, Nat.reduceEqDiff, ↓reduceIte, reduceCtorEq, true_and, and_true, and_self, false_and, and_false, Int.reduceToNat, Int.reduceAdd, Int.reduceSub, Int.reduceMul, cond_true, cond_false, List.toList_toArray, Option.map_some, Option.map_none, Option.some.injEq, List.cons_append, List.nil_append]
              have hM4 := ((Mod.refl (Value.slice a3 xs.length c5).ownBlock.toList w2).drewN n).trans hM4 (fun x hx => .inl hx)
              have hno : ∀ y, y ∈ (Value.slice a3 xs.length c5).ownBlock.toList → y ≠ pb ∧ y ≠ wb2 ∧ w.heap.size ≤ y := fun y hy => by
                have hy : (Value.slice a3 xs.length c5).ownBlock = some y := by simpa using hy
                exact ⟨own_ne hrow2 k2.2.1 (by decide) y hy, own_ne hrow2 k2.2.2 (by decide) y hy, (hrow2.lt y hy).1⟩
              have k4 := k2.mod hM4 (fun h => (hno _ h).1 rfl) (fun h => (hno _ h).2.1 rfl)
              refine ⟨⟨k + 1, by omega, own, _, pb, wb2, _, xs ++ [(xa, xb, xn)], sv', rfl, by simp; omega, hown, ?_, ?_, hinv2, k4, hp, by omega, by simpa [triC] using hown4, hM3.trans hM4 (fun y hy => .inr (hno y hy).2.2)⟩, by omega⟩
              · omega
              · omega
          · simp (disch := first | omega | (simp only [sizeAlloc, sizeDrew, sizeSet, sizePut]; omega) | fail) only [GS1, GS2, GS3, GS4, GS5, GS6, GS7, GS8, GS9, GS10, TT_eq, TTl, Nat.reduceAdd, Nat.reduceMul, Nat.reduceSub, Nat.reduceDiv, Nat.reduceMod, Nat.reducePow, Nat.reduceEqDiff, ↓reduceIte, reduceCtorEq, true_and, and_true, and_self, false_and, and_false, Int.reduceToNat, Int.reduceAdd, Int.reduceSub, Int.reduceMul, cond_true, cond_false, List.toList_toArray, Option.map_some, Option.map_none, Option.some.injEq, List.cons_append, List.nil_append]
            refine ⟨⟨k + 1, by omega, own, _, pb, wb2, _, xs, sv, rfl, by omega, hown, ?_, ?_, hinv.fail hc, k2, hp, by omega, hrow2, hM3⟩, by omega⟩
            · omega
            · omega
        · refine hold_draw okT (rs := [.tmp 4]) rfl [0, 0, 3, 7, 15, 0, 0, 96, 224, 480, 0, 0, 3072, 7168, 15360, 32767, 0, 131071] [0, 1, 2, 3, 4, 5, 6, 7, 8, 9, 10, 11, 12, 13, 14, 15, 16, 17] (by kernel_rfl) (by kernel_rfl) ?_
          simp (disch := first | omega | (simp only [sizeAlloc, sizeDrew, sizeSet, sizePut]; omega) | fail) only [GS1, GS2, GS3, GS4, GS5, GS6, GS7, GS8, GS9, GS10, TT_eq, TTl, Nat.reduceAdd, Nat.reduceMul, Nat.reduceSub, Nat.reduceDiv, Nat.reduceMod, Nat.reducePow, Nat.reduceEqDiff, ↓reduceIte, reduceCtorEq, true_and, and_true, and_self, false_and, and_false, Int.reduceToNat, Int.reduceAdd, Int.reduceSub, Int.reduceMul, cond_true, cond_false, List.toList_toArray, Option.map_some, Option.map_none, Option.some.injEq, List.cons_append, List.nil_append, f1, f2, f3, f0]
          refine ⟨⟨k + 1, by omega, own, _, pb, wb, s, xs, sv, rfl, by omega, hown, ?_, ?_, hinv, hpeer.mod hMx (by simp) (by simp), hp, by assumption, ownsRow_mod hrow hMx (by simp), hM.trans hMx (by simp)⟩, by omega⟩
          · omega
          · omega
  · have e : k = l.length := by omega
    subst e
    simp (disch := first | omega | (simp only [sizeAlloc, sizeDrew, sizeSet, sizePut]; omega) | fail) only [GS1, GS2, GS3, GS4, GS5, GS6, GS7, GS8, GS9, GS10, TT_eq, TTl, Nat.reduceAdd, Nat.reduceMul, Nat.reduceSub, Nat.reduceDiv, Nat.reduceMod, Nat.reducePow, Nat.reduceEqDiff, ↓reduceIte, reduceCtorEq, true_and, and_true, and_self, false_and, and_false, Int.reduceToNat, Int.reduceAdd, Int.reduceSub, Int.reduceMul, cond_true, cond_false, List.toList_toArray, Option.map_some, Option.map_none, Option.some.injEq, List.cons_append, List.nil_append]
    refine ⟨fok11, palive_cps _ _ fun w1 hM1 => .inl ⟨_, rfl, hold_ops okT (rs := [.tmp 4]) rfl ?_⟩⟩
    simp (disch := first | omega | (simp only [sizeAlloc, sizeDrew, sizeSet, sizePut]; omega) | fail) only [GS1, GS2, GS3, GS4, GS5, GS6, GS7, GS8, GS9, GS10, TT_eq, TTl, Nat.reduceAdd, Nat.reduceMul, Nat.reduceSub, Nat.reduceDiv, Nat.reduceMod, Nat.reducePow, Nat.reduceEqDiff, ↓reduceIte, reduceCtorEq, true_and, and_true, and_self, false_and, and_false, Int.reduceToNat, Int.reduceAdd, Int.reduceSub, Int.reduceMul, cond_true, cond_false, List.toList_toArray, Option.map_some, Option.map_none, Option.some.injEq, List.cons_append, List.nil_append]
    exact hR _ (hM.trans hM1 (by simp))
end Go.Proofs.Ytechabbdobbooaa
