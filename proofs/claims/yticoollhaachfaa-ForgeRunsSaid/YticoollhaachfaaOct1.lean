/-
  Numbers as bytes (walks).
-/
import Derived.Test.YticoollhaachfaaOct0
set_option linter.unusedSimpArgs false
set_option linter.unusedVariables false
namespace Go.Proofs.Yticoollhaachfaa
open Go Go.Wk Go.RowKit
attribute [local irreducible] go Hold
/-- The array into which the digits go. -/
def buf9 (l : List UInt8) : List UInt8 := List.replicate (9 - l.length) 0 ++ l
theorem buf9_len {l : List UInt8} (h : l.length ≤ 9) : (buf9 l).length = 9 := by unfold buf9; simp; omega
theorem buf9_set {l : List UInt8} {b : UInt8} (h : l.length < 9) : (buf9 l).set (8 - l.length) b = buf9 (b :: l) := by
  unfold buf9
  rw [List.length_cons, show 9 - l.length = 8 - l.length + 1 from by omega, show 9 - (l.length + 1) = 8 - l.length from by omega, List.replicate_succ', List.append_assoc, List.set_append_right _ _ (by simp)]
  simp
theorem buf9_drop {l : List UInt8} : (buf9 l).drop (9 - l.length) = l := by unfold buf9; rw [List.drop_left' (by simp)]
theorem arr_set {l : List UInt8} {i : Nat} {b : UInt8} : ((l.map byteV).toArray).setIfInBounds i (byteV b) = ((l.set i b).map byteV).toArray := by
  rw [List.setIfInBounds_toArray, List.map_set]
theorem byteV_of {x : Nat} (h : x < 256) : Value.int .u8 (x : Int) = byteV (UInt8.ofNat x) := by
  unfold byteV; rw [UInt8.toNat_ofNat']; congr 2; omega
set_option maxRecDepth 20000 in
set_option maxHeartbeats 4000000 in
theorem oNum_cps (v : Nat) (hv : v < 18446744073709551616) (w : World) (R : Ending → World → Prop) (hR : ∀ w', Mod [] w w' → R (.returned (.string ⟨(numL v).toArray⟩)) w') :
    Calls Try.prog 37 #[.int .u64 v] w R := by
  unfold numL at hR
  by_cases h : v < 248
  · rw [if_pos h] at hR
    refine calls_go 4000 okT Try.func37 rfl (rs := [.tmp 2]) rfl Try.ntmps37 (args := [.int .u64 v]) ?_
    simp (config := { maxSteps := 1000000 }) (disch := first | omega | (simp only [sizeAlloc, sizeDrew, sizeSet, sizePut] <;> omega) | fail) only [GS1, GS2, GS3, GS4, GS5, GS6, GS7, GS8, GS9, GS10, GS11, TT_eq, TTl, Nat.reduceAdd, Nat.reduceMul, Nat.reduceSub, Nat.reduceDiv, Nat.reduceMod, Nat.reducePow, Nat.reduceEqDiff, ↓reduceIte, reduceCtorEq, true_and, and_true, and_self, false_and, and_false, Int.reduceToNat, Int.reduceAdd, Int.reduceSub, Int.reduceMul, cond_true, cond_false, List.toList_toArray, Option.map_some, Option.map_none, Option.some.injEq, List.cons_append, List.nil_append, List.length_cons, List.length_nil, List.getD_cons_zero, List.getD_cons_succ]
    exact hR _ ((Mod.refl _ _).alloc _)
  · rw [if_neg h] at hR
    refine calls_go 4000 okT Try.func37 rfl (rs := [.tmp 2]) rfl Try.ntmps37 (args := [.int .u64 v]) ?_
    simp (config := { maxSteps := 1000000 }) (disch := first | omega | (simp only [sizeAlloc, sizeDrew, sizeSet, sizePut] <;> omega) | fail) only [GS1, GS2, GS3, GS4, GS5, GS6, GS7, GS8, GS9, GS10, GS11, TT_eq, TTl, Nat.reduceAdd, Nat.reduceMul, Nat.reduceSub, Nat.reduceDiv, Nat.reduceMod, Nat.reducePow, Nat.reduceEqDiff, ↓reduceIte, reduceCtorEq, true_and, and_true, and_self, false_and, and_false, Int.reduceToNat, Int.reduceAdd, Int.reduceSub, Int.reduceMul, cond_true, cond_false, List.toList_toArray, Option.map_some, Option.map_none, Option.some.injEq, List.cons_append, List.nil_append, List.length_cons, List.length_nil, List.getD_cons_zero, List.getD_cons_succ]
    have hn8 := nd8 hv
    refine hold_loop okT (rs := [.tmp 2]) rfl [0, 4] [11, 12, 13, 14, 15, 16, 17, 18, 19, 20] (fun vs w' => ∃ k : Nat, k ≤ nd v ∧ vs = [.int .u64 ((v / 256 ^ k : Nat) : Int), .int .i64 ((9 - k : Nat) : Int)] ∧ w'.heap[w.heap.size]? = some (.cells ((buf9 (lowD v k)).map byteV).toArray 108 (0, 0)) ∧ Mod [] w w') (fun vs _ => match vs with | [_, .int _ i] => i.toNat | _ => 0) (by kernel_rfl)
      ⟨0, by omega, by simp [getL, Wk.get], heapNew, (Mod.refl _ _).alloc _⟩ ?_
    rintro vs w1 J ⟨k, hk, rfl, hb, hM⟩
    have hl := lowD_len v k
    have hbl := buf9_len (l := lowD v k) (by omega)
    have hdiv := nd_div k v hk
    by_cases h0 : v / 256 ^ k = 0
    · have hkn : k = nd v := by rw [h0, nd_zero] at hdiv; omega
      have hx : (((9 - k : Nat) : Int) - 1).toNat = 8 - k := by omega
      have hc0 : w1.cell? ⟨w.heap.size, 8 - k, none⟩ = some (((buf9 (lowD v k)).map byteV)[8 - k]'(by simp; omega)) := by rw [cellOf hb, List.getElem?_toArray, List.getElem?_eq_getElem]
      have hf0 := frozenOf (o := 8 - k) hb
      have h255 : (255 : Int) - (((9 - k : Nat) : Int) - 1) = ((247 + k : Nat) : Int) := by omega
      have hb2 : (w1.setCell ⟨w.heap.size, 8 - k, none⟩ (.int .u8 ((247 + k : Nat) : Int))).heap[w.heap.size]? = some (.cells ((buf9 (UInt8.ofNat (247 + k) :: lowD v k)).map byteV).toArray 108 (0, 0)) := by
        rw [byteV_of (x := 247 + k) (by omega), heapSet hb, arr_set, ← buf9_set (by omega), hl]
      obtain ⟨m, hm⟩ : ∃ m, m = k + 1 := ⟨_, rfl⟩
      have hld : loadL (w1.setCell ⟨w.heap.size, 8 - k, none⟩ (.int .u8 ((247 + k : Nat) : Int))) ⟨w.heap.size, 8 - k, none⟩ 0 m = some ((UInt8.ofNat (247 + k) :: lowD v k).map byteV) := by
        rw [hm]
        have hbl2 := buf9_len (l := UInt8.ofNat (247 + k) :: lowD v k) (by simp; omega)
        rw [loadL_heap hb2 _ _ _ (by rw [List.size_toArray, List.length_map, hbl2]; omega)]
        have := buf9_drop (l := UInt8.ofNat (247 + k) :: lowD v k)
        rw [List.length_cons, hl, show 9 - (k + 1) = 8 - k from by omega] at this
        show some (List.take (k + 1) (List.drop (8 - k) (List.map byteV _))) = _
        rw [← List.map_drop, this, List.take_of_length_le (by simp; omega)]
      have hne : ¬ ((9 : Int) = ((9 - k : Nat) : Int) - 1) := by omega
      have hlen : 9 - (8 - k) = m := by omega
      rw [← hkn] at hR
      have hdg : digL v = lowD v k := by unfold digL; rw [← hkn]
      rw [hdg] at hR
      simp (config := { maxSteps := 1000000 }) (disch := first | omega | (simp only [sizeAlloc, sizeDrew, sizeSet, sizePut] <;> omega) | fail) only [GS1, GS2, GS3, GS4, GS5, GS6, GS7, GS8, GS9, GS10, GS11, TT_eq, TTl, Nat.reduceAdd, Nat.reduceMul, Nat.reduceSub, Nat.reduceDiv, Nat.reduceMod, Nat.reducePow, Nat.reduceEqDiff, ↓reduceIte, reduceCtorEq, true_and, and_true, and_self, false_and, and_false, Int.reduceToNat, Int.reduceAdd, Int.reduceSub, Int.reduceMul, cond_true, cond_false, List.toList_toArray, Option.map_some, Option.map_none, Option.some.injEq, List.cons_append, List.nil_append, List.length_cons, List.length_nil, List.getD_cons_zero, List.getD_cons_succ, h0, hx, hc0, hf0, h255, hne, hlen, addr_add, hld, bytesL_byteV]
      exact hR _ (hM.set (p := ⟨w.heap.size, 8 - k, none⟩) (.inr (Nat.le_refl _)) _)
    · have hnd := nd1 (Nat.pos_of_ne_zero h0)
      have hx : (((9 - k : Nat) : Int) - 1).toNat = 8 - k := by omega
      have hc0 : w1.cell? ⟨w.heap.size, 8 - k, none⟩ = some (((buf9 (lowD v k)).map byteV)[8 - k]'(by simp; omega)) := by rw [cellOf hb, List.getElem?_toArray, List.getElem?_eq_getElem]
      have hf0 := frozenOf (o := 8 - k) hb
      have hw8 : IntKind.u8.wrap ((v / 256 ^ k : Nat) : Int) = ((v / 256 ^ k % 256 : Nat) : Int) := by rw [IntKind.wrap_u8]; omega
      have hsh : ((v / 256 ^ k : Nat) : Int).fdiv (2 ^ capN .u64 8) = ((v / 256 ^ (k + 1) : Nat) : Int) := by
        rw [show v / 256 ^ (k + 1) = v / 256 ^ k / 256 by rw [Nat.pow_succ, Nat.div_div_eq_div_mul]]
        generalize v / 256 ^ k = x
        rw [show (2 : Int) ^ capN .u64 8 = 256 from by decide, Int.fdiv_eq_ediv_of_nonneg _ (by omega)]; omega
      have hpos : (0 : Int) < ((v / 256 ^ k : Nat) : Int) := Int.natCast_pos.2 (Nat.pos_of_ne_zero h0)
      have hb2 : (w1.setCell ⟨w.heap.size, 8 - k, none⟩ (.int .u8 ((v / 256 ^ k % 256 : Nat) : Int))).heap[w.heap.size]? = some (.cells ((buf9 (lowD v (k + 1))).map byteV).toArray 108 (0, 0)) := by
        rw [byteV_of (x := v / 256 ^ k % 256) (by omega), heapSet hb, arr_set]
        have := buf9_set (l := lowD v k) (b := UInt8.ofNat (v / 256 ^ k % 256)) (by omega)
        rw [hl] at this
        rw [this]; rfl
      simp (config := { maxSteps := 1000000 }) (disch := first | omega | (simp only [sizeAlloc, sizeDrew, sizeSet, sizePut] <;> omega) | fail) only [GS1, GS2, GS3, GS4, GS5, GS6, GS7, GS8, GS9, GS10, GS11, TT_eq, TTl, Nat.reduceAdd, Nat.reduceMul, Nat.reduceSub, Nat.reduceDiv, Nat.reduceMod, Nat.reducePow, Nat.reduceEqDiff, ↓reduceIte, reduceCtorEq, true_and, and_true, and_self, false_and, and_false, Int.reduceToNat, Int.reduceAdd, Int.reduceSub, Int.reduceMul, cond_true, cond_false, List.toList_toArray, Option.map_some, Option.map_none, Option.some.injEq, List.cons_append, List.nil_append, List.length_cons, List.length_nil, List.getD_cons_zero, List.getD_cons_succ, hx, hc0, hf0, hw8, hsh, hpos]
      refine ⟨⟨k + 1, by omega, ?_, hb2, hM.set (p := ⟨w.heap.size, 8 - k, none⟩) (.inr (Nat.le_refl _)) _⟩, by omega⟩
      congr 2
      congr 1
      omega
end Go.Proofs.Yticoollhaachfaa
