/-
  hmac (walks).
-/
import Derived.Test.YtoladcdelaemoaaQeSha6
import Derived.Laws.BitsAllLaws
set_option linter.unusedSimpArgs false
set_option linter.unusedVariables false
set_option maxRecDepth 20000
namespace Go.Proofs.Ytoladcdelaemoaa
open Go Go.Wk Go.RowKit
attribute [local irreducible] go Hold
/-- A key's block. -/
def keyB (key : List UInt8) : List UInt8 := (key.take 64) ++ List.replicate (64 - key.length) 0
def blkF (key : List UInt8) (m : UInt8) : List UInt8 := (keyB key).map (· ^^^ m)
def blkF' (kb : List UInt8) (m : UInt8) : List UInt8 := kb.map (· ^^^ m)
theorem keyB_len (key : List UInt8) : (keyB key).length = 64 := by unfold keyB; rw [List.length_append, List.length_take, List.length_replicate]; omega
set_option maxHeartbeats 2000000 in
theorem turn_cps (x : Nat) (c m : UInt8) (w : World) (hx : w.heap[x]? = some (.cells #[.int .u8 (m.toNat : Int)] 5 (0, 0))) (R : Ending → World → Prop) (hR : R (.returned (.int .u8 ((c ^^^ m).toNat : Int))) w) :
    Calls Try.prog 144 #[.int .u8 (c.toNat : Int), .pointer (some ⟨x, 0, none⟩)] w R := by
  refine calls_go 4000 okT Try.func144 rfl (rs := [.tmp 3]) rfl Try.ntmps144 (args := [.int .u8 (c.toNat : Int), .pointer (some ⟨x, 0, none⟩)]) ?_
  have c0 := cellOf (o := 0) hx
  simp (maxSteps := 1000000) (disch := first | omega | (simp only [sizeAlloc, sizeDrew, sizeSet, sizePut] <;> omega) | fail) only [GS, TT_eq, TTl, Nat.reduceAdd, Nat.reduceMul, Nat.reduceSub, Nat.reduceDiv, Nat.reduceMod, Nat.reducePow, Nat.reduceEqDiff, ↓reduceIte, reduceCtorEq, Int.reduceToNat, Int.reduceAdd, Int.reduceSub, Int.reduceMul, c0]
  rw [u8_xor_nat _ _ c.toNat_lt m.toNat_lt, ← UInt8.toNat_xor]
  exact hR
theorem made0 (z : Value) (hz : z.cells = #[.int .u8 0]) (n : Nat) : madeCells z.cells n = ((List.replicate n (0 : UInt8)).map byteV).toArray := by
  rw [hz]
  apply Array.ext'
  rw [List.map_replicate]
  apply List.ext_getElem
  · simp [madeCells]
  · intro i h1 h2
    simp only [madeCells, List.getElem_replicate]
    simp [byteV, Nat.mod_one]
theorem ovw_pre (l vs : List Value) (h : vs.length ≤ l.length) : ovw l 0 vs = vs ++ l.drop vs.length := by
  refine List.ext_getElem? fun i => ?_
  rw [ovw_get vs l 0 i (by omega)]
  by_cases hi : i < vs.length
  · rw [if_pos (by omega), List.getElem?_append_left hi]; rfl
  · rw [if_neg (by omega), List.getElem?_append_right (by omega), List.getElem?_drop, show vs.length + (i - vs.length) = i by omega]
/-- The first k bytes turned. -/
def trnK (l : List UInt8) (m : UInt8) (k : Nat) : List UInt8 := (l.take k).map (· ^^^ m) ++ l.drop k
theorem trnK_get {l : List UInt8} {m : UInt8} {k : Nat} (h : k < l.length) : (trnK l m k)[k]? = some l[k] := by
  unfold trnK
  rw [List.getElem?_append_right (by rw [List.length_map, List.length_take]; omega), List.length_map, List.length_take, List.getElem?_drop, show k + (k - min k l.length) = k by omega, List.getElem?_eq_getElem h]
theorem trnK_set {l : List UInt8} {m : UInt8} {k : Nat} (h : k < l.length) : (trnK l m k).set k (l[k] ^^^ m) = trnK l m (k + 1) := by
  unfold trnK
  rw [List.set_append_right _ _ (by rw [List.length_map, List.length_take]; omega), List.length_map, List.length_take, show k - min k l.length = 0 by omega, List.drop_eq_getElem_cons h, List.set_cons_zero, List.take_succ_eq_append_getElem h, List.map_append, List.append_assoc]
  rfl
set_option maxHeartbeats 8000000 in
theorem with_cps (kt : List Int) (key : List UInt8) (hk : key.length ≤ 64) (x : Nat) (m : UInt8) (w : World) (hx : w.heap[x]? = some (.cells #[.int .u8 (m.toNat : Int)] 5 (0, 0))) (hK : KTab w kt) (R : Ending → World → Prop)
    (hR : ∀ h w', ShaAt w' h (putF kt st0 wt0 0 (blkF key m)).1 (putF kt st0 wt0 0 (blkF key m)).2 64 → w.heap.size ≤ h → Mod [] w w' → R (.returned (.agg #[.pointer (some ⟨h, 0, none⟩)])) w') :
    Calls Try.prog 145 #[.string ⟨key.toArray⟩, .func (.func 144) #[] #[.pointer (some ⟨x, 0, none⟩)]] w R := by
  rw [show blkF key m = blkF' (keyB key) m from rfl] at hR
  refine calls_go 4000 okT Try.func145 rfl (rs := [.cell 4 179]) rfl Try.ntmps145 (args := [.string ⟨key.toArray⟩, .func (.func 144) #[] #[.pointer (some ⟨x, 0, none⟩)]]) ?_
  simp (maxSteps := 1000000) (disch := first | omega | (simp only [sizeAlloc, sizeDrew, sizeSet, sizePut] <;> omega) | fail) only [GS, TT_eq, TTl, Nat.reduceAdd, Nat.reduceMul, Nat.reduceSub, Nat.reduceDiv, Nat.reduceMod, Nat.reducePow, Nat.reduceEqDiff, ↓reduceIte, reduceCtorEq, Int.reduceToNat, Int.reduceAdd, Int.reduceSub, Int.reduceMul]
  refine hold_makeSlice okT rfl rfl rfl rfl rfl (Nat.le_refl _) (by decide) (by decide) fun z hz => hold_ops okT (rs := [.cell 4 179]) rfl ?_
  simp (maxSteps := 1000000) (disch := first | omega | (simp only [sizeAlloc, sizeDrew, sizeSet, sizePut] <;> omega) | fail) only [GS, TT_eq, TTl, Nat.reduceAdd, Nat.reduceMul, Nat.reduceSub, Nat.reduceDiv, Nat.reduceMod, Nat.reducePow, Nat.reduceEqDiff, ↓reduceIte, reduceCtorEq, Int.reduceToNat, Int.reduceAdd, Int.reduceSub, Int.reduceMul]
  have hz1 : madeCells z.cells 64 = ((List.replicate 64 (0 : UInt8)).map byteV).toArray := made0 z hz 64
  rw [hz1]
  have hA := heapNew (w := w.alloc (.cells #[Value.pointer none] 179)) (o := .cells ((List.replicate 64 (0 : UInt8)).map byteV).toArray 5)
  have hMa := ((Mod.refl [] w).alloc (.cells #[Value.pointer none] 179)).alloc (.cells ((List.replicate 64 (0 : UInt8)).map byteV).toArray 5)
  rw [sizeAlloc] at hA
  refine hold_copyS okT rfl rfl rfl rfl rfl rfl hA (by simp) fun w2 hh2 hM2 => ?_
  have hkl : ((key.take 64).map byteV).length ≤ ((List.replicate 64 (0 : UInt8)).map byteV).length := by simp; omega
  have hov : ovw ((List.replicate 64 (0 : UInt8)).map byteV) 0 ((key.take 64).map byteV) = (trnK (keyB key) m 0).map byteV := by
    rw [ovw_pre _ _ hkl, ← List.map_drop, List.length_map, ← List.map_append, List.drop_replicate]
    unfold trnK keyB
    rw [List.length_take, show 64 - min 64 key.length = 64 - key.length by omega]
    simp
  rw [hov] at hh2
  have hl := keyB_len key
  have hMb : Mod [] w w2 := hMa.trans hM2 (by intro y hy; simp only [List.mem_singleton] at hy; subst hy; exact .inr (by omega))
  have hB : w2.heap[w.heap.size]? = some (.cells #[Value.pointer none] 179 (0, 0)) := hM2.get ((((Mod.refl [] _).alloc (.cells ((List.replicate 64 (0 : UInt8)).map byteV).toArray 5)).get heapNew (by simp))) (by simp)
  have hx2 := hMb.get hx (by simp)
  clear hz1 hA hMa hov hkl
  generalize keyB key = kb at *
  generalize hAe : w.heap.size + 1 = A at *
  refine hold_ops okT (rs := [.cell 4 179]) rfl ?_
  simp (maxSteps := 1000000) (disch := first | omega | (simp only [sizeAlloc, sizeDrew, sizeSet, sizePut] <;> omega) | fail) only [GS, TT_eq, TTl, Nat.reduceAdd, Nat.reduceMul, Nat.reduceSub, Nat.reduceDiv, Nat.reduceMod, Nat.reducePow, Nat.reduceEqDiff, ↓reduceIte, reduceCtorEq, Int.reduceToNat, Int.reduceAdd, Int.reduceSub, Int.reduceMul]
  refine hold_loop okT (rs := [.cell 4 179]) rfl [14] [6, 15, 16, 17, 18, 19, 20, 21, 22, 23, 24, 25, 26] (fun vs w' => ∃ (k : Nat), k ≤ 64 ∧ vs = [.int .i64 k] ∧ w'.heap[A]? = some (.cells ((trnK kb m k).map byteV).toArray 5 (0, 0)) ∧ Mod [A] w2 w') (fun vs _ => match vs with | [.int _ i] => 64 - i.toNat | _ => 0) (by kernel_rfl) ⟨0, by omega, rfl, hh2, Mod.refl _ _⟩ ?_
  clear hh2
  rintro vs w3 J ⟨k, hk, rfl, hA3, hM3⟩
  by_cases hlt : k < 64
  · have hkk : k < kb.length := by omega
    have ck : w3.cell? ⟨A, k, none⟩ = some (.int .u8 (kb[k].toNat : Int)) := by
      rw [cellOf hA3, List.getElem?_toArray, List.getElem?_map, trnK_get hkk]; rfl
    have fk : w3.frozen? ⟨A, k, none⟩ = false := frozenOf hA3
    have hx3 : w3.heap[x]? = some (.cells #[.int .u8 (m.toNat : Int)] 5 (0, 0)) := hM3.get hx2 (by simp only [List.mem_singleton]; have := ltOf hx; omega)
    have hst : (((trnK kb m k).map byteV).set k (.int .u8 ((kb[k] ^^^ m).toNat : Int))) = (trnK kb m (k + 1)).map byteV := by rw [← trnK_set hkk, List.map_set]; rfl
    have hA4 := heapSet (o := k) (v := .int .u8 ((kb[k] ^^^ m).toNat : Int)) hA3
    have hM4 := hM3.set (p := ⟨A, k, none⟩) (.inl (by simp)) (.int .u8 ((kb[k] ^^^ m).toNat : Int))
    simp (maxSteps := 1000000) (disch := first | omega | (simp only [sizeAlloc, sizeDrew, sizeSet, sizePut] <;> omega) | fail) only [GS, TT_eq, TTl, Nat.reduceAdd, Nat.reduceMul, Nat.reduceSub, Nat.reduceDiv, Nat.reduceMod, Nat.reducePow, Nat.reduceEqDiff, ↓reduceIte, reduceCtorEq, Int.reduceToNat, Int.reduceAdd, Int.reduceSub, Int.reduceMul, ck, fk]
    refine ⟨fok144, turn_cps x kb[k] m w3 hx3 _ (.inl ⟨_, rfl, hold_ops okT (rs := [.cell 4 179]) rfl ?_⟩)⟩
    simp (maxSteps := 1000000) (disch := first | omega | (simp only [sizeAlloc, sizeDrew, sizeSet, sizePut] <;> omega) | fail) only [GS, TT_eq, TTl, Nat.reduceAdd, Nat.reduceMul, Nat.reduceSub, Nat.reduceDiv, Nat.reduceMod, Nat.reducePow, Nat.reduceEqDiff, ↓reduceIte, reduceCtorEq, Int.reduceToNat, Int.reduceAdd, Int.reduceSub, Int.reduceMul, ck, fk]
    exact ⟨⟨k + 1, by omega, rfl, by rw [hA4, ← hst]; simp only [List.setIfInBounds_toArray], hM4⟩, by omega⟩
  have ek : k = 64 := by omega
  subst ek
  have hAl : w2.heap.size ≤ w2.heap.size := Nat.le_refl _
  have hM03 : Mod [] w w3 := hMb.trans hM3 (by intro y hy; simp only [List.mem_singleton] at hy; subst hy; exact .inr (by omega))
  have hB3 := hM3.get hB (by simp only [List.mem_singleton]; omega)
  have htr : trnK kb m 64 = blkF' kb m := by unfold trnK blkF'; rw [List.take_of_length_le (by omega), List.drop_eq_nil_of_le (by omega), List.append_nil]
  rw [htr] at hA3
  have hol : (blkF' kb m).length = 64 := by unfold blkF'; rw [List.length_map]; exact hl
  generalize blkF' kb m = o at *
  simp (maxSteps := 1000000) (disch := first | omega | (simp only [sizeAlloc, sizeDrew, sizeSet, sizePut] <;> omega) | fail) only [GS, TT_eq, TTl, Nat.reduceAdd, Nat.reduceMul, Nat.reduceSub, Nat.reduceDiv, Nat.reduceMod, Nat.reducePow, Nat.reduceEqDiff, ↓reduceIte, reduceCtorEq, Int.reduceToNat, Int.reduceAdd, Int.reduceSub, Int.reduceMul]
  refine ⟨fok133, shaNew_cps w3 _ fun h w4 hS4 hh hM4 => .inl ⟨_, rfl, hold_ops okT (rs := [.cell 4 179]) rfl ?_⟩⟩
  have hA4 := hM4.get hA3 (by simp)
  have hL : loadL w4 ⟨A, 0, none⟩ 0 64 = some (o.map byteV) := by
    have := loadL_all (w := w4) (b := A) (l := o.map byteV) (fun j hj => by rw [cellOf hA4, List.getElem?_toArray]) 64 0 (by rw [List.length_map, hol])
    simpa using this
  have hbL : bytesL (o.map byteV) = some o := bytesL_map o
  simp (maxSteps := 1000000) (disch := first | omega | (simp only [sizeAlloc, sizeDrew, sizeSet, sizePut] <;> omega) | fail) only [GS, TT_eq, TTl, Nat.reduceAdd, Nat.reduceMul, Nat.reduceSub, Nat.reduceDiv, Nat.reduceMod, Nat.reducePow, Nat.reduceEqDiff, ↓reduceIte, reduceCtorEq, Int.reduceToNat, Int.reduceAdd, Int.reduceSub, Int.reduceMul, ↓hL, hbL]
  have hM04 := hM03.trans hM4 (by simp)
  refine ⟨fok134, shaWrite_cps h st0 wt0 kt 0 o WB0 (by omega) w4 hS4 (hK.mod hM04 (by simp)) _ fun w5 hS5 hB5 hM5 => .inl ⟨_, rfl, hold_ops okT (rs := [.cell 4 179]) rfl ?_⟩⟩
  rw [hol] at hS5
  have hB6 := hM5.get (hM4.get hB3 (by simp)) (by simp only [List.mem_singleton]; have := ltOf hB3; omega)
  have hM05 := hM04.trans hM5 (by intro y hy; simp only [List.mem_singleton] at hy; subst hy; exact .inr (by have := hM03.size; omega))
  have cB := cellOf (o := 0) hB6
  have fB : w5.frozen? ⟨w.heap.size, 0, none⟩ = false := frozenOf hB6
  simp (maxSteps := 1000000) (disch := first | omega | (simp only [sizeAlloc, sizeDrew, sizeSet, sizePut] <;> omega) | fail) only [GS, TT_eq, TTl, Nat.reduceAdd, Nat.reduceMul, Nat.reduceSub, Nat.reduceDiv, Nat.reduceMod, Nat.reducePow, Nat.reduceEqDiff, ↓reduceIte, reduceCtorEq, Int.reduceToNat, Int.reduceAdd, Int.reduceSub, Int.reduceMul, cB, fB]
  have hC := heapSet (o := 0) (v := .pointer (some ⟨h, 0, none⟩)) hB6
  have cC := cellOf (o := 0) hC
  have h3s := hM03.size
  have hBl := ltOf hB3
  refine ⟨_, cC, hR h _ ⟨?_, hS5.2⟩ (by omega) (hM05.set (p := ⟨w.heap.size, 0, none⟩) (.inr (Nat.le_refl _)) _)⟩
  exact ((Mod.refl [w.heap.size] w5).set (p := ⟨w.heap.size, 0, none⟩) (.inl (by simp)) _).get hS5.1 (by simp only [List.mem_singleton]; omega)
end Go.Proofs.Ytoladcdelaemoaa
