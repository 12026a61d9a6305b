/-
  sha: the sum of a text (walk). hmac (walks). hmac: a key that is ready, a tag (walks). hmac: the tag of a text (walks). A suite of either kind: New, Key, Mac (walks).
-/
import Derived.Test.YtdflchgfhmjhbaaGreatDoorQvZ3
import Derived.Laws.BitsAllLaws
set_option linter.unusedSimpArgs false
set_option linter.unusedVariables false
namespace Go.Proofs.YtdflchgfhmjhbaaGreatDoor
set_option maxHeartbeats 8000000
set_option maxRecDepth 20000
open Go Go.Wk Go.RowKit
attribute [local irreducible] go Hold
/-- SHA-256 by a table. -/
def shF (kt : List Int) (s : List UInt8) : List UInt8 := sumF kt (putF kt st0 wt0 0 s).1 (putF kt st0 wt0 0 s).2 s.length
theorem takF_len (kt st wt : List Int) : (takF kt st wt).length = st.length := by
  unfold takF
  generalize rsL _ = r
  have : ∀ k, (upS st r k).length = st.length := by
    intro k
    induction k with
    | zero => rfl
    | succ k ih => rw [upS, List.length_set, ih]
  exact this 8
theorem putF_len (kt : List Int) : ∀ (s : List UInt8) (st wt : List Int) (n : Nat), (putF kt st wt n s).1.length = st.length
  | [], _, _, _ => rfl
  | c :: s, st, wt, n => by
    rw [putF, putF_len kt s]
    split
    · exact takF_len kt st _
    · rfl
theorem sumF_len (kt st wt : List Int) (n : Nat) (h : st.length = 8) : (sumF kt st wt n).length = 32 := by
  unfold sumF
  rw [outF_len, putF_len, h]
theorem shF_len (kt : List Int) (s : List UInt8) : (shF kt s).length = 32 := by
  unfold shF
  rw [sumF_len _ _ _ _ (by rw [putF_len]; rfl)]
theorem WB0 : WB wt0 := by unfold WB wt0; intro c hc; rw [List.mem_replicate] at hc; omega
theorem shaText_cps (kt : List Int) (s : List UInt8) (hs : s.length ≤ 1152921504606846976) (w : World) (hK : KTab w kt) (R : Ending → World → Prop) (hR : ∀ w', Mod [] w w' → R (.returned (.string ⟨(shF kt s).toArray⟩)) w') :
    Calls Tryz.prog 200 #[.string ⟨s.toArray⟩] w R := by
  refine calls_go 4000 okT Tryz.func200 rfl (rs := [.tmp 2]) rfl Tryz.ntmps200 (args := [.string ⟨s.toArray⟩]) ?_
  simp (maxSteps := 1000000) (disch := first | omega | (simp only [sizeAlloc, sizeDrew, sizeSet, sizePut] <;> omega) | fail) only [GS, TT_eq, TTl, Nat.reduceAdd, Nat.reduceMul, Nat.reduceSub, Nat.reduceDiv, Nat.reduceMod, Nat.reducePow, Nat.reduceEqDiff, ↓reduceIte, reduceCtorEq, Int.reduceToNat, Int.reduceAdd, Int.reduceSub, Int.reduceMul]
  refine ⟨fok205, shaNew_cps w _ fun h w1 hS1 hh hM1 => .inl ⟨_, rfl, hold_ops okT (rs := [.tmp 2]) rfl ?_⟩⟩
  simp (maxSteps := 1000000) (disch := first | omega | (simp only [sizeAlloc, sizeDrew, sizeSet, sizePut] <;> omega) | fail) only [GS, TT_eq, TTl, Nat.reduceAdd, Nat.reduceMul, Nat.reduceSub, Nat.reduceDiv, Nat.reduceMod, Nat.reducePow, Nat.reduceEqDiff, ↓reduceIte, reduceCtorEq, Int.reduceToNat, Int.reduceAdd, Int.reduceSub, Int.reduceMul]
  refine ⟨fok206, shaWrite_cps h st0 wt0 kt 0 s WB0 (by omega) w1 hS1 (hK.mod hM1 (by simp)) _ fun w2 hS2 hB2 hM2 => .inl ⟨_, rfl, hold_ops okT (rs := [.tmp 2]) rfl ?_⟩⟩
  rw [Nat.zero_add] at hS2
  have hM02 : Mod [] w w2 := hM1.trans hM2 (by intro y hy; simp only [List.mem_singleton] at hy; subst hy; exact .inr hh)
  simp (maxSteps := 1000000) (disch := first | omega | (simp only [sizeAlloc, sizeDrew, sizeSet, sizePut] <;> omega) | fail) only [GS, TT_eq, TTl, Nat.reduceAdd, Nat.reduceMul, Nat.reduceSub, Nat.reduceDiv, Nat.reduceMod, Nat.reducePow, Nat.reduceEqDiff, ↓reduceIte, reduceCtorEq, Int.reduceToNat, Int.reduceAdd, Int.reduceSub, Int.reduceMul]
  refine ⟨fok207, shaSum_cps h _ _ kt s.length hB2 hs w2 hS2 (hK.mod hM02 (by simp)) _ fun w3 hM3 => .inl ⟨_, rfl, hold_ops okT (rs := [.tmp 2]) rfl ?_⟩⟩
  simp (maxSteps := 1000000) (disch := first | omega | (simp only [sizeAlloc, sizeDrew, sizeSet, sizePut] <;> omega) | fail) only [GS, TT_eq, TTl, Nat.reduceAdd, Nat.reduceMul, Nat.reduceSub, Nat.reduceDiv, Nat.reduceMod, Nat.reducePow, Nat.reduceEqDiff, ↓reduceIte, reduceCtorEq, Int.reduceToNat, Int.reduceAdd, Int.reduceSub, Int.reduceMul]
  exact hR _ (hM02.trans hM3 (by simp))
/-- A key's block. -/
def keyB (key : List UInt8) : List UInt8 := (key.take 64) ++ List.replicate (64 - key.length) 0
def blkF (key : List UInt8) (m : UInt8) : List UInt8 := (keyB key).map (· ^^^ m)
def blkF' (kb : List UInt8) (m : UInt8) : List UInt8 := kb.map (· ^^^ m)
theorem keyB_len (key : List UInt8) : (keyB key).length = 64 := by unfold keyB; rw [List.length_append, List.length_take, List.length_replicate]; omega
theorem turn_cps (x : Nat) (c m : UInt8) (w : World) (hx : w.heap[x]? = some (.cells #[.int .u8 (m.toNat : Int)] 5 (0, 0))) (R : Ending → World → Prop) (hR : R (.returned (.int .u8 ((c ^^^ m).toNat : Int))) w) :
    Calls Tryz.prog 202 #[.int .u8 (c.toNat : Int), .pointer (some ⟨x, 0, none⟩)] w R := by
  refine calls_go 4000 okT Tryz.func202 rfl (rs := [.tmp 3]) rfl Tryz.ntmps202 (args := [.int .u8 (c.toNat : Int), .pointer (some ⟨x, 0, none⟩)]) ?_
  have c0 := cellOf (o := 0) hx
  simp (maxSteps := 1000000) (disch := first | omega | (simp only [sizeAlloc, sizeDrew, sizeSet, sizePut] <;> omega) | fail) only [GS, TT_eq, TTl, Nat.reduceAdd, Nat.reduceMul, Nat.reduceSub, Nat.reduceDiv, Nat.reduceMod, Nat.reducePow, Nat.reduceEqDiff, ↓reduceIte, reduceCtorEq, Int.reduceToNat, Int.reduceAdd, Int.reduceSub, Int.reduceMul, c0]
  rw [u8_xor_nat _ _ c.toNat_lt m.toNat_lt, ← UInt8.toNat_xor]
  exact hR
theorem made0 (z : Value) (hz : z.cells = #[.int .u8 0]) (n : Nat) : madeCells z.cells n = ((List.replicate n (0 : UInt8)).map byteV).toArray := by
  rw [hz]
  apply Array.ext'
  rw [List.map_replicate]
  apply List.ext_getElem
  · simp [madeCells]
  · intro i h1 h2
    simp only [madeCells, List.getElem_replicate]
    simp [byteV, Nat.mod_one]
theorem ovw_pre (l vs : List Value) (h : vs.length ≤ l.length) : ovw l 0 vs = vs ++ l.drop vs.length := by
  refine List.ext_getElem? fun i => ?_
  rw [ovw_get vs l 0 i (by omega)]
  by_cases hi : i < vs.length
  · rw [if_pos (by omega), List.getElem?_append_left hi]; rfl
  · rw [if_neg (by omega), List.getElem?_append_right (by omega), List.getElem?_drop, show vs.length + (i - vs.length) = i by omega]
/-- The first k bytes turned. -/
def trnK (l : List UInt8) (m : UInt8) (k : Nat) : List UInt8 := (l.take k).map (· ^^^ m) ++ l.drop k
theorem trnK_get {l : List UInt8} {m : UInt8} {k : Nat} (h : k < l.length) : (trnK l m k)[k]? = some l[k] := by
  unfold trnK
  rw [List.getElem?_append_right (by rw [List.length_map, List.length_take]; omega), List.length_map, List.length_take, List.getElem?_drop, show k + (k - min k l.length) = k by omega, List.getElem?_eq_getElem h]
theorem trnK_set {l : List UInt8} {m : UInt8} {k : Nat} (h : k < l.length) : (trnK l m k).set k (l[k] ^^^ m) = trnK l m (k + 1) := by
  unfold trnK
  rw [List.set_append_right _ _ (by rw [List.length_map, List.length_take]; omega), List.length_map, List.length_take, show k - min k l.length = 0 by omega, List.drop_eq_getElem_cons h, List.set_cons_zero, List.take_succ_eq_append_getElem h, List.map_append, List.append_assoc]
  rfl
theorem with_cps (kt : List Int) (key : List UInt8) (hk : key.length ≤ 64) (x : Nat) (m : UInt8) (w : World) (hx : w.heap[x]? = some (.cells #[.int .u8 (m.toNat : Int)] 5 (0, 0))) (hK : KTab w kt) (R : Ending → World → Prop)
    (hR : ∀ h w', ShaAt w' h (putF kt st0 wt0 0 (blkF key m)).1 (putF kt st0 wt0 0 (blkF key m)).2 64 → w.heap.size ≤ h → Mod [] w w' → R (.returned (.agg #[.pointer (some ⟨h, 0, none⟩)])) w') :
    Calls Tryz.prog 203 #[.string ⟨key.toArray⟩, .func (.func 202) #[] #[.pointer (some ⟨x, 0, none⟩)]] w R := by
  rw [show blkF key m = blkF' (keyB key) m from rfl] at hR
  refine calls_go 4000 okT Tryz.func203 rfl (rs := [.cell 4 283]) rfl Tryz.ntmps203 (args := [.string ⟨key.toArray⟩, .func (.func 202) #[] #[.pointer (some ⟨x, 0, none⟩)]]) ?_
  simp (maxSteps := 1000000) (disch := first | omega | (simp only [sizeAlloc, sizeDrew, sizeSet, sizePut] <;> omega) | fail) only [GS, TT_eq, TTl, Nat.reduceAdd, Nat.reduceMul, Nat.reduceSub, Nat.reduceDiv, Nat.reduceMod, Nat.reducePow, Nat.reduceEqDiff, ↓reduceIte, reduceCtorEq, Int.reduceToNat, Int.reduceAdd, Int.reduceSub, Int.reduceMul]
  refine hold_makeSlice okT rfl rfl rfl rfl rfl (Nat.le_refl _) (by decide) (by decide) fun z hz => hold_ops okT (rs := [.cell 4 283]) rfl ?_
  simp (maxSteps := 1000000) (disch := first | omega | (simp only [sizeAlloc, sizeDrew, sizeSet, sizePut] <;> omega) | fail) only [GS, TT_eq, TTl, Nat.reduceAdd, Nat.reduceMul, Nat.reduceSub, Nat.reduceDiv, Nat.reduceMod, Nat.reducePow, Nat.reduceEqDiff, ↓reduceIte, reduceCtorEq, Int.reduceToNat, Int.reduceAdd, Int.reduceSub, Int.reduceMul]
  have hz1 : madeCells z.cells 64 = ((List.replicate 64 (0 : UInt8)).map byteV).toArray := made0 z hz 64
  rw [hz1]
  have hA := heapNew (w := w.alloc (.cells #[Value.pointer none] 283)) (o := .cells ((List.replicate 64 (0 : UInt8)).map byteV).toArray 5)
  have hMa := ((Mod.refl [] w).alloc (.cells #[Value.pointer none] 283)).alloc (.cells ((List.replicate 64 (0 : UInt8)).map byteV).toArray 5)
  rw [sizeAlloc] at hA
  refine hold_copyS okT rfl rfl rfl rfl rfl rfl hA (by simp) fun w2 hh2 hM2 => ?_
  have hkl : ((key.take 64).map byteV).length ≤ ((List.replicate 64 (0 : UInt8)).map byteV).length := by simp; omega
  have hov : ovw ((List.replicate 64 (0 : UInt8)).map byteV) 0 ((key.take 64).map byteV) = (trnK (keyB key) m 0).map byteV := by
    rw [ovw_pre _ _ hkl, ← List.map_drop, List.length_map, ← List.map_append, List.drop_replicate]
    unfold trnK keyB
    rw [List.length_take, show 64 - min 64 key.length = 64 - key.length by omega]
    simp
  rw [hov] at hh2
  have hl := keyB_len key
  have hMb : Mod [] w w2 := hMa.trans hM2 (by intro y hy; simp only [List.mem_singleton] at hy; subst hy; exact .inr (by omega))
  have hB : w2.heap[w.heap.size]? = some (.cells #[Value.pointer none] 283 (0, 0)) := hM2.get ((((Mod.refl [] _).alloc (.cells ((List.replicate 64 (0 : UInt8)).map byteV).toArray 5)).get heapNew (by simp))) (by simp)
  have hx2 := hMb.get hx (by simp)
  clear hz1 hA hMa hov hkl
  generalize keyB key = kb at *
  generalize hAe : w.heap.size + 1 = A at *
  refine hold_ops okT (rs := [.cell 4 283]) rfl ?_
  simp (maxSteps := 1000000) (disch := first | omega | (simp only [sizeAlloc, sizeDrew, sizeSet, sizePut] <;> omega) | fail) only [GS, TT_eq, TTl, Nat.reduceAdd, Nat.reduceMul, Nat.reduceSub, Nat.reduceDiv, Nat.reduceMod, Nat.reducePow, Nat.reduceEqDiff, ↓reduceIte, reduceCtorEq, Int.reduceToNat, Int.reduceAdd, Int.reduceSub, Int.reduceMul]
  refine hold_loop okT (rs := [.cell 4 283]) rfl [14] [6, 15, 16, 17, 18, 19, 20, 21, 22, 23, 24, 25, 26] (fun vs w' => ∃ (k : Nat), k ≤ 64 ∧ vs = [.int .i64 k] ∧ w'.heap[A]? = some (.cells ((trnK kb m k).map byteV).toArray 5 (0, 0)) ∧ Mod [A] w2 w') (fun vs _ => match vs with | [.int _ i] => 64 - i.toNat | _ => 0) (by kernel_rfl) ⟨0, by omega, rfl, hh2, Mod.refl _ _⟩ ?_
  clear hh2
  rintro vs w3 J ⟨k, hk, rfl, hA3, hM3⟩
  by_cases hlt : k < 64
  · have hkk : k < kb.length := by omega
    have ck : w3.cell? ⟨A, k, none⟩ = some (.int .u8 (kb[k].toNat : Int)) := by
      rw [cellOf hA3, List.getElem?_toArray, List.getElem?_map, trnK_get hkk]; rfl
    have fk : w3.frozen? ⟨A, k, none⟩ = false := frozenOf hA3
    have hx3 : w3.heap[x]? = some (.cells #[.int .u8 (m.toNat : Int)] 5 (0, 0)) := hM3.get hx2 (by simp only [List.mem_singleton]; have := ltOf hx; omega)
    have hst : (((trnK kb m k).map byteV).set k (.int .u8 ((kb[k] ^^^ m).toNat : Int))) = (trnK kb m (k + 1)).map byteV := by rw [← trnK_set hkk, List.map_set]; rfl
    have hA4 := heapSet (o := k) (v := .int .u8 ((kb[k] ^^^ m).toNat : Int)) hA3
    have hM4 := hM3.set (p := ⟨A, k, none⟩) (.inl (by simp)) (.int .u8 ((kb[k] ^^^ m).toNat : Int))
    simp (maxSteps := 1000000) (disch := first | omega | (simp only [sizeAlloc, sizeDrew, sizeSet, sizePut] <;> omega) | fail) only [GS, TT_eq, TTl, Nat.reduceAdd, Nat.reduceMul, Nat.reduceSub, Nat.reduceDiv, Nat.reduceMod, Nat.reducePow, Nat.reduceEqDiff, ↓reduceIte, reduceCtorEq, Int.reduceToNat, Int.reduceAdd, Int.reduceSub, Int.reduceMul, ck, fk]
    refine ⟨fok202, turn_cps x kb[k] m w3 hx3 _ (.inl ⟨_, rfl, hold_ops okT (rs := [.cell 4 283]) rfl ?_⟩)⟩
    simp (maxSteps := 1000000) (disch := first | omega | (simp only [sizeAlloc, sizeDrew, sizeSet, sizePut] <;> omega) | fail) only [GS, TT_eq, TTl, Nat.reduceAdd, Nat.reduceMul, Nat.reduceSub, Nat.reduceDiv, Nat.reduceMod, Nat.reducePow, Nat.reduceEqDiff, ↓reduceIte, reduceCtorEq, Int.reduceToNat, Int.reduceAdd, Int.reduceSub, Int.reduceMul, ck, fk]
    exact ⟨⟨k + 1, by omega, rfl, by rw [hA4, ← hst]; simp only [List.setIfInBounds_toArray], hM4⟩, by omega⟩
  have ek : k = 64 := by omega
  subst ek
  have hAl : w2.heap.size ≤ w2.heap.size := Nat.le_refl _
  have hM03 : Mod [] w w3 := hMb.trans hM3 (by intro y hy; simp only [List.mem_singleton] at hy; subst hy; exact .inr (by omega))
  have hB3 := hM3.get hB (by simp only [List.mem_singleton]; omega)
  have htr : trnK kb m 64 = blkF' kb m := by unfold trnK blkF'; rw [List.take_of_length_le (by omega), List.drop_eq_nil_of_le (by omega), List.append_nil]
  rw [htr] at hA3
  have hol : (blkF' kb m).length = 64 := by unfold blkF'; rw [List.length_map]; exact hl
  generalize blkF' kb m = o at *
  simp (maxSteps := 1000000) (disch := first | omega | (simp only [sizeAlloc, sizeDrew, sizeSet, sizePut] <;> omega) | fail) only [GS, TT_eq, TTl, Nat.reduceAdd, Nat.reduceMul, Nat.reduceSub, Nat.reduceDiv, Nat.reduceMod, Nat.reducePow, Nat.reduceEqDiff, ↓reduceIte, reduceCtorEq, Int.reduceToNat, Int.reduceAdd, Int.reduceSub, Int.reduceMul]
  refine ⟨fok205, shaNew_cps w3 _ fun h w4 hS4 hh hM4 => .inl ⟨_, rfl, hold_ops okT (rs := [.cell 4 283]) rfl ?_⟩⟩
  have hA4 := hM4.get hA3 (by simp)
  have hL : loadL w4 ⟨A, 0, none⟩ 0 64 = some (o.map byteV) := by
    have := loadL_all (w := w4) (b := A) (l := o.map byteV) (fun j hj => by rw [cellOf hA4, List.getElem?_toArray]) 64 0 (by rw [List.length_map, hol])
    simpa using this
  have hbL : bytesL (o.map byteV) = some o := bytesL_map o
  simp (maxSteps := 1000000) (disch := first | omega | (simp only [sizeAlloc, sizeDrew, sizeSet, sizePut] <;> omega) | fail) only [GS, TT_eq, TTl, Nat.reduceAdd, Nat.reduceMul, Nat.reduceSub, Nat.reduceDiv, Nat.reduceMod, Nat.reducePow, Nat.reduceEqDiff, ↓reduceIte, reduceCtorEq, Int.reduceToNat, Int.reduceAdd, Int.reduceSub, Int.reduceMul, ↓hL, hbL]
  have hM04 := hM03.trans hM4 (by simp)
  refine ⟨fok206, shaWrite_cps h st0 wt0 kt 0 o WB0 (by omega) w4 hS4 (hK.mod hM04 (by simp)) _ fun w5 hS5 hB5 hM5 => .inl ⟨_, rfl, hold_ops okT (rs := [.cell 4 283]) rfl ?_⟩⟩
  rw [hol] at hS5
  have hB6 := hM5.get (hM4.get hB3 (by simp)) (by simp only [List.mem_singleton]; have := ltOf hB3; omega)
  have hM05 := hM04.trans hM5 (by intro y hy; simp only [List.mem_singleton] at hy; subst hy; exact .inr (by have := hM03.size; omega))
  have cB := cellOf (o := 0) hB6
  have fB : w5.frozen? ⟨w.heap.size, 0, none⟩ = false := frozenOf hB6
  simp (maxSteps := 1000000) (disch := first | omega | (simp only [sizeAlloc, sizeDrew, sizeSet, sizePut] <;> omega) | fail) only [GS, TT_eq, TTl, Nat.reduceAdd, Nat.reduceMul, Nat.reduceSub, Nat.reduceDiv, Nat.reduceMod, Nat.reducePow, Nat.reduceEqDiff, ↓reduceIte, reduceCtorEq, Int.reduceToNat, Int.reduceAdd, Int.reduceSub, Int.reduceMul, cB, fB]
  have hC := heapSet (o := 0) (v := .pointer (some ⟨h, 0, none⟩)) hB6
  have cC := cellOf (o := 0) hC
  have h3s := hM03.size
  have hBl := ltOf hB3
  refine ⟨_, cC, hR h _ ⟨?_, hS5.2⟩ (by omega) (hM05.set (p := ⟨w.heap.size, 0, none⟩) (.inr (Nat.le_refl _)) _)⟩
  exact ((Mod.refl [w.heap.size] w5).set (p := ⟨w.heap.size, 0, none⟩) (.inl (by simp)) _).get hS5.1 (by simp only [List.mem_singleton]; omega)
/-- A tag's key as it is laid into the block. -/
def keyS (kt : List Int) (key : List UInt8) : List UInt8 := if 64 < key.length then shF kt key else key
def inF (kt : List Int) (key : List UInt8) (m : UInt8) : List UInt8 := blkF (keyS kt key) m
/-- The tag of a text. -/
def hmF (kt : List Int) (key s : List UInt8) : List UInt8 := shF kt (inF kt key 92 ++ shF kt (inF kt key 54 ++ s))
/-- A key that is ready, as it stands in memory. -/
def HkAt (w : World) (k : Nat) (kt : List Int) (key : List UInt8) : Prop := ∃ hi ho, w.heap[k]? = some (.cells #[.pointer (some ⟨hi, 0, none⟩), .pointer (some ⟨ho, 0, none⟩)] 286 (0, 0)) ∧
  ShaAt w hi (putF kt st0 wt0 0 (inF kt key 54)).1 (putF kt st0 wt0 0 (inF kt key 54)).2 64 ∧ ShaAt w ho (putF kt st0 wt0 0 (inF kt key 92)).1 (putF kt st0 wt0 0 (inF kt key 92)).2 64
theorem HkAt.mod0 {w w' : World} {k : Nat} {kt : List Int} {key : List UInt8} (h : HkAt w k kt key) (hM : Mod [] w w') : HkAt w' k kt key := by
  obtain ⟨hi, ho, a, b, c⟩ := h
  exact ⟨hi, ho, hM.get a (by simp), b.mod0 hM, c.mod0 hM⟩
theorem by_cps (m : UInt8) (w : World) (R : Ending → World → Prop) (hR : ∀ x w', w'.heap[x]? = some (.cells #[.int .u8 (m.toNat : Int)] 5 (0, 0)) → Mod [] w w' → R (.returned (.func (.func 202) #[] #[.pointer (some ⟨x, 0, none⟩)])) w') :
    Calls Tryz.prog 201 #[.int .u8 (m.toNat : Int)] w R := by
  refine calls_go 4000 okT Tryz.func201 rfl (rs := [.tmp 2]) rfl Tryz.ntmps201 (args := [.int .u8 (m.toNat : Int)]) ?_
  simp (maxSteps := 1000000) (disch := first | omega | (simp only [sizeAlloc, sizeDrew, sizeSet, sizePut] <;> omega) | fail) only [GS, TT_eq, TTl, Nat.reduceAdd, Nat.reduceMul, Nat.reduceSub, Nat.reduceDiv, Nat.reduceMod, Nat.reducePow, Nat.reduceEqDiff, ↓reduceIte, reduceCtorEq, Int.reduceToNat, Int.reduceAdd, Int.reduceSub, Int.reduceMul]
  exact hR _ _ heapNew ((Mod.refl [] w).alloc _)
theorem hmNew_cps (kt : List Int) (key : List UInt8) (hk : key.length ≤ 1152921504606846976) (w : World) (hK : KTab w kt) (R : Ending → World → Prop) (hR : ∀ k w', HkAt w' k kt key → w.heap.size ≤ k → Mod [] w w' → R (.returned (.pointer (some ⟨k, 0, none⟩))) w') :
    Calls Tryz.prog 198 #[.string ⟨key.toArray⟩] w R := by
  refine calls_go 4000 okT Tryz.func198 rfl (rs := [.tmp 2]) rfl Tryz.ntmps198 (args := [.string ⟨key.toArray⟩]) ?_
  simp (maxSteps := 1000000) (disch := first | omega | (simp only [sizeAlloc, sizeDrew, sizeSet, sizePut] <;> omega) | fail) only [GS, TT_eq, TTl, Nat.reduceAdd, Nat.reduceMul, Nat.reduceSub, Nat.reduceDiv, Nat.reduceMod, Nat.reducePow, Nat.reduceEqDiff, ↓reduceIte, reduceCtorEq, Int.reduceToNat, Int.reduceAdd, Int.reduceSub, Int.reduceMul]
  have hks : (keyS kt key).length ≤ 64 := by
    unfold keyS
    split
    · rw [shF_len]; omega
    · omega
  by_cases h64 : 64 < key.length
  · have ek : keyS kt key = shF kt key := if_pos h64
    unfold HkAt inF at hR
    simp (maxSteps := 1000000) (disch := first | omega | (simp only [sizeAlloc, sizeDrew, sizeSet, sizePut] <;> omega) | fail) only [GS, TT_eq, TTl, Nat.reduceAdd, Nat.reduceMul, Nat.reduceSub, Nat.reduceDiv, Nat.reduceMod, Nat.reducePow, Nat.reduceEqDiff, ↓reduceIte, reduceCtorEq, Int.reduceToNat, Int.reduceAdd, Int.reduceSub, Int.reduceMul]
    refine ⟨fok200, shaText_cps kt key hk w hK _ fun w1 hM1 => .inl ⟨_, rfl, hold_ops okT (rs := [.tmp 2]) rfl ?_⟩⟩
    have hK1 := hK.mod hM1 (by simp)
    rw [← ek]
    generalize keyS kt key = ks at *
    simp (maxSteps := 1000000) (disch := first | omega | (simp only [sizeAlloc, sizeDrew, sizeSet, sizePut] <;> omega) | fail) only [GS, TT_eq, TTl, Nat.reduceAdd, Nat.reduceMul, Nat.reduceSub, Nat.reduceDiv, Nat.reduceMod, Nat.reducePow, Nat.reduceEqDiff, ↓reduceIte, reduceCtorEq, Int.reduceToNat, Int.reduceAdd, Int.reduceSub, Int.reduceMul]
    refine ⟨fok201, by_cps 54 w1 _ fun x1 w2 hx1 hM2 => .inl ⟨_, rfl, hold_ops okT (rs := [.tmp 2]) rfl ?_⟩⟩
    simp (maxSteps := 1000000) (disch := first | omega | (simp only [sizeAlloc, sizeDrew, sizeSet, sizePut] <;> omega) | fail) only [GS, TT_eq, TTl, Nat.reduceAdd, Nat.reduceMul, Nat.reduceSub, Nat.reduceDiv, Nat.reduceMod, Nat.reducePow, Nat.reduceEqDiff, ↓reduceIte, reduceCtorEq, Int.reduceToNat, Int.reduceAdd, Int.reduceSub, Int.reduceMul]
    refine ⟨fok203, with_cps kt ks hks x1 54 w2 hx1 (hK1.mod hM2 (by simp)) _ fun h1 w3 hS3 hh1 hM3 => .inl ⟨_, rfl, hold_ops okT (rs := [.tmp 2]) rfl ?_⟩⟩
    have hM13 := hM2.trans hM3 (by simp)
    simp (maxSteps := 1000000) (disch := first | omega | (simp only [sizeAlloc, sizeDrew, sizeSet, sizePut] <;> omega) | fail) only [GS, TT_eq, TTl, Nat.reduceAdd, Nat.reduceMul, Nat.reduceSub, Nat.reduceDiv, Nat.reduceMod, Nat.reducePow, Nat.reduceEqDiff, ↓reduceIte, reduceCtorEq, Int.reduceToNat, Int.reduceAdd, Int.reduceSub, Int.reduceMul]
    refine ⟨fok201, by_cps 92 w3 _ fun x2 w4 hx2 hM4 => .inl ⟨_, rfl, hold_ops okT (rs := [.tmp 2]) rfl ?_⟩⟩
    simp (maxSteps := 1000000) (disch := first | omega | (simp only [sizeAlloc, sizeDrew, sizeSet, sizePut] <;> omega) | fail) only [GS, TT_eq, TTl, Nat.reduceAdd, Nat.reduceMul, Nat.reduceSub, Nat.reduceDiv, Nat.reduceMod, Nat.reducePow, Nat.reduceEqDiff, ↓reduceIte, reduceCtorEq, Int.reduceToNat, Int.reduceAdd, Int.reduceSub, Int.reduceMul]
    have hM14 := hM13.trans hM4 (by simp)
    refine ⟨fok203, with_cps kt ks hks x2 92 w4 hx2 (hK1.mod hM14 (by simp)) _ fun h2 w5 hS5 hh2 hM5 => .inl ⟨_, rfl, hold_ops okT (rs := [.tmp 2]) rfl ?_⟩⟩
    have hM15 := hM14.trans hM5 (by simp)
    have hS35 := (hS3.mod0 hM4).mod0 hM5
    simp (maxSteps := 1000000) (disch := first | omega | (simp only [sizeAlloc, sizeDrew, sizeSet, sizePut] <;> omega) | fail) only [GS, TT_eq, TTl, Nat.reduceAdd, Nat.reduceMul, Nat.reduceSub, Nat.reduceDiv, Nat.reduceMod, Nat.reducePow, Nat.reduceEqDiff, ↓reduceIte, reduceCtorEq, Int.reduceToNat, Int.reduceAdd, Int.reduceSub, Int.reduceMul]
    have hMz := (Mod.refl [] w5).alloc (.cells #[.pointer (some ⟨h1, 0, none⟩), .pointer (some ⟨h2, 0, none⟩)] 286)
    have hM0z := hM1.trans (hM15.trans hMz (by simp)) (by simp)
    exact hR _ _ ⟨h1, h2, heapNew, hS35.mod0 hMz, hS5.mod0 hMz⟩ (hM1.trans hM15 (by simp)).size hM0z
  · have ek : keyS kt key = key := if_neg h64
    unfold HkAt inF at hR
    have hK1 := hK
    have hM1 := Mod.refl [] w
    rw [ek] at hks hR
    generalize key = ks at *
    simp (maxSteps := 1000000) (disch := first | omega | (simp only [sizeAlloc, sizeDrew, sizeSet, sizePut] <;> omega) | fail) only [GS, TT_eq, TTl, Nat.reduceAdd, Nat.reduceMul, Nat.reduceSub, Nat.reduceDiv, Nat.reduceMod, Nat.reducePow, Nat.reduceEqDiff, ↓reduceIte, reduceCtorEq, Int.reduceToNat, Int.reduceAdd, Int.reduceSub, Int.reduceMul]
    refine ⟨fok201, by_cps 54 w _ fun x1 w2 hx1 hM2 => .inl ⟨_, rfl, hold_ops okT (rs := [.tmp 2]) rfl ?_⟩⟩
    simp (maxSteps := 1000000) (disch := first | omega | (simp only [sizeAlloc, sizeDrew, sizeSet, sizePut] <;> omega) | fail) only [GS, TT_eq, TTl, Nat.reduceAdd, Nat.reduceMul, Nat.reduceSub, Nat.reduceDiv, Nat.reduceMod, Nat.reducePow, Nat.reduceEqDiff, ↓reduceIte, reduceCtorEq, Int.reduceToNat, Int.reduceAdd, Int.reduceSub, Int.reduceMul]
    refine ⟨fok203, with_cps kt ks hks x1 54 w2 hx1 (hK1.mod hM2 (by simp)) _ fun h1 w3 hS3 hh1 hM3 => .inl ⟨_, rfl, hold_ops okT (rs := [.tmp 2]) rfl ?_⟩⟩
    have hM13 := hM2.trans hM3 (by simp)
    simp (maxSteps := 1000000) (disch := first | omega | (simp only [sizeAlloc, sizeDrew, sizeSet, sizePut] <;> omega) | fail) only [GS, TT_eq, TTl, Nat.reduceAdd, Nat.reduceMul, Nat.reduceSub, Nat.reduceDiv, Nat.reduceMod, Nat.reducePow, Nat.reduceEqDiff, ↓reduceIte, reduceCtorEq, Int.reduceToNat, Int.reduceAdd, Int.reduceSub, Int.reduceMul]
    refine ⟨fok201, by_cps 92 w3 _ fun x2 w4 hx2 hM4 => .inl ⟨_, rfl, hold_ops okT (rs := [.tmp 2]) rfl ?_⟩⟩
    simp (maxSteps := 1000000) (disch := first | omega | (simp only [sizeAlloc, sizeDrew, sizeSet, sizePut] <;> omega) | fail) only [GS, TT_eq, TTl, Nat.reduceAdd, Nat.reduceMul, Nat.reduceSub, Nat.reduceDiv, Nat.reduceMod, Nat.reducePow, Nat.reduceEqDiff, ↓reduceIte, reduceCtorEq, Int.reduceToNat, Int.reduceAdd, Int.reduceSub, Int.reduceMul]
    have hM14 := hM13.trans hM4 (by simp)
    refine ⟨fok203, with_cps kt ks hks x2 92 w4 hx2 (hK1.mod hM14 (by simp)) _ fun h2 w5 hS5 hh2 hM5 => .inl ⟨_, rfl, hold_ops okT (rs := [.tmp 2]) rfl ?_⟩⟩
    have hM15 := hM14.trans hM5 (by simp)
    have hS35 := (hS3.mod0 hM4).mod0 hM5
    simp (maxSteps := 1000000) (disch := first | omega | (simp only [sizeAlloc, sizeDrew, sizeSet, sizePut] <;> omega) | fail) only [GS, TT_eq, TTl, Nat.reduceAdd, Nat.reduceMul, Nat.reduceSub, Nat.reduceDiv, Nat.reduceMod, Nat.reducePow, Nat.reduceEqDiff, ↓reduceIte, reduceCtorEq, Int.reduceToNat, Int.reduceAdd, Int.reduceSub, Int.reduceMul]
    have hMz := (Mod.refl [] w5).alloc (.cells #[.pointer (some ⟨h1, 0, none⟩), .pointer (some ⟨h2, 0, none⟩)] 286)
    have hM0z := hM1.trans (hM15.trans hMz (by simp)) (by simp)
    exact hR _ _ ⟨h1, h2, heapNew, hS35.mod0 hMz, hS5.mod0 hMz⟩ (hM1.trans hM15 (by simp)).size hM0z
theorem over_cps (kt : List Int) (h : Nat) (p s : List UInt8) (hp : p.length = 64) (hs : s.length ≤ 1000000000000) (w : World) (hS : ShaAt w h (putF kt st0 wt0 0 p).1 (putF kt st0 wt0 0 p).2 64) (hB : WB (putF kt st0 wt0 0 p).2) (hK : KTab w kt) (R : Ending → World → Prop)
    (hR : ∀ w', Mod [] w w' → R (.returned (.string ⟨(shF kt (p ++ s)).toArray⟩)) w') : Calls Tryz.prog 204 #[.agg #[.pointer (some ⟨h, 0, none⟩)], .string ⟨s.toArray⟩] w R := by
  refine calls_go 4000 okT Tryz.func204 rfl (rs := [.tmp 4]) rfl Tryz.ntmps204 (args := [.agg #[.pointer (some ⟨h, 0, none⟩)], .string ⟨s.toArray⟩]) ?_
  simp (maxSteps := 1000000) (disch := first | omega | (simp only [sizeAlloc, sizeDrew, sizeSet, sizePut] <;> omega) | fail) only [GS, TT_eq, TTl, Nat.reduceAdd, Nat.reduceMul, Nat.reduceSub, Nat.reduceDiv, Nat.reduceMod, Nat.reducePow, Nat.reduceEqDiff, ↓reduceIte, reduceCtorEq, Int.reduceToNat, Int.reduceAdd, Int.reduceSub, Int.reduceMul]
  have hM1 := (Mod.refl [] w).alloc (.cells #[.pointer (some ⟨h, 0, none⟩)] 283)
  have hS1 := hS.mod0 hM1
  have hK1 := hK.mod hM1 (by simp)
  refine ⟨fok208, shaCopy_cps h _ _ _ _ hS1 _ fun c w2 hS2 hc hM2 => .inl ⟨_, rfl, hold_ops okT (rs := [.tmp 4]) rfl ?_⟩⟩
  simp (maxSteps := 1000000) (disch := first | omega | (simp only [sizeAlloc, sizeDrew, sizeSet, sizePut] <;> omega) | fail) only [GS, TT_eq, TTl, Nat.reduceAdd, Nat.reduceMul, Nat.reduceSub, Nat.reduceDiv, Nat.reduceMod, Nat.reducePow, Nat.reduceEqDiff, ↓reduceIte, reduceCtorEq, Int.reduceToNat, Int.reduceAdd, Int.reduceSub, Int.reduceMul]
  refine ⟨fok206, shaWrite_cps c _ _ kt 64 s hB (by omega) w2 hS2 (hK1.mod hM2 (by simp)) _ fun w3 hS3 hB3 hM3 => .inl ⟨_, rfl, hold_ops okT (rs := [.tmp 4]) rfl ?_⟩⟩
  have hM03 : Mod [] w w3 := (hM1.trans hM2 (by simp)).trans hM3 (by intro y hy; simp only [List.mem_singleton] at hy; subst hy; exact .inr (by have := hM1.size; omega))
  simp (maxSteps := 1000000) (disch := first | omega | (simp only [sizeAlloc, sizeDrew, sizeSet, sizePut] <;> omega) | fail) only [GS, TT_eq, TTl, Nat.reduceAdd, Nat.reduceMul, Nat.reduceSub, Nat.reduceDiv, Nat.reduceMod, Nat.reducePow, Nat.reduceEqDiff, ↓reduceIte, reduceCtorEq, Int.reduceToNat, Int.reduceAdd, Int.reduceSub, Int.reduceMul]
  refine ⟨fok207, shaSum_cps c _ _ kt (64 + s.length) hB3 (by omega) w3 hS3 (hK.mod hM03 (by simp)) _ fun w4 hM4 => .inl ⟨_, rfl, hold_ops okT (rs := [.tmp 4]) rfl ?_⟩⟩
  have e : sumF kt (putF kt (putF kt st0 wt0 0 p).1 (putF kt st0 wt0 0 p).2 64 s).1 (putF kt (putF kt st0 wt0 0 p).1 (putF kt st0 wt0 0 p).2 64 s).2 (64 + s.length) = shF kt (p ++ s) := by
    unfold shF
    rw [putF_app, List.length_append, hp, Nat.zero_add]
  rw [e]
  simp (maxSteps := 1000000) (disch := first | omega | (simp only [sizeAlloc, sizeDrew, sizeSet, sizePut] <;> omega) | fail) only [GS, TT_eq, TTl, Nat.reduceAdd, Nat.reduceMul, Nat.reduceSub, Nat.reduceDiv, Nat.reduceMod, Nat.reducePow, Nat.reduceEqDiff, ↓reduceIte, reduceCtorEq, Int.reduceToNat, Int.reduceAdd, Int.reduceSub, Int.reduceMul]
  exact hR _ (hM03.trans hM4 (by simp))
theorem putF_WB (kt : List Int) : ∀ (s : List UInt8) (st wt : List Int) (n : Nat), WB wt → WB (putF kt st wt n s).2
  | [], _, _, _, h => h
  | c :: s, st, wt, n, h => by rw [putF]; exact putF_WB kt s _ _ _ (h.set _ c)
theorem inF_len (kt : List Int) (key : List UInt8) (m : UInt8) : (inF kt key m).length = 64 := by unfold inF blkF; rw [List.length_map]; exact keyB_len _
theorem hmF_len (kt : List Int) (key s : List UInt8) : (hmF kt key s).length = 32 := shF_len kt _
theorem hkSum_cps (kt : List Int) (k : Nat) (key s : List UInt8) (hs : s.length ≤ 1000000000000) (w : World) (hH : HkAt w k kt key) (hK : KTab w kt) (R : Ending → World → Prop)
    (hR : ∀ w', Mod [] w w' → R (.returned (.string ⟨(hmF kt key s).toArray⟩)) w') : Calls Tryz.prog 199 #[.pointer (some ⟨k, 0, none⟩), .string ⟨s.toArray⟩] w R := by
  obtain ⟨hi, ho, h1, h2, h3⟩ := hH
  have c0 := cellOf (o := 0) h1
  have c1 := cellOf (o := 1) h1
  refine calls_go 4000 okT Tryz.func199 rfl (rs := [.tmp 4]) rfl Tryz.ntmps199 (args := [.pointer (some ⟨k, 0, none⟩), .string ⟨s.toArray⟩]) ?_
  simp (maxSteps := 1000000) (disch := first | omega | (simp only [sizeAlloc, sizeDrew, sizeSet, sizePut] <;> omega) | fail) only [GS, TT_eq, TTl, Nat.reduceAdd, Nat.reduceMul, Nat.reduceSub, Nat.reduceDiv, Nat.reduceMod, Nat.reducePow, Nat.reduceEqDiff, ↓reduceIte, reduceCtorEq, Int.reduceToNat, Int.reduceAdd, Int.reduceSub, Int.reduceMul]
  refine hold_draw okT (rs := [.tmp 4]) rfl [0, 1, 3, 7, 0, 16, 48, 112, 0, 496, 1023, 2047] [0, 1, 2, 3, 4, 5, 6, 7, 8, 9, 10, 11] (by kernel_rfl) (by kernel_rfl) ?_
  have hM1 := (Mod.refl [] w).drewN 1
  simp (maxSteps := 1000000) (disch := first | omega | (simp only [sizeAlloc, sizeDrew, sizeSet, sizePut] <;> omega) | fail) only [GS, TT_eq, TTl, Nat.reduceAdd, Nat.reduceMul, Nat.reduceSub, Nat.reduceDiv, Nat.reduceMod, Nat.reducePow, Nat.reduceEqDiff, ↓reduceIte, reduceCtorEq, Int.reduceToNat, Int.reduceAdd, Int.reduceSub, Int.reduceMul, c0, c1]
  refine ⟨fok204, over_cps kt hi (inF kt key 54) s (inF_len _ _ _) hs _ (h2.mod0 hM1) (putF_WB _ _ _ _ _ WB0) (hK.mod hM1 (by simp)) _ fun w2 hM2 => ?_⟩
  have hM02 := hM1.trans hM2 (by simp)
  have d1 := cellOf (o := 1) (hM02.get h1 (by simp))
  refine .inl ⟨_, rfl, by rw [d1]; rfl, hold_dops okT (rs := [.tmp 4]) rfl ?_⟩
  simp (maxSteps := 1000000) (disch := first | omega | (simp only [sizeAlloc, sizeDrew, sizeSet, sizePut] <;> omega) | fail) only [GS, TT_eq, TTl, Nat.reduceAdd, Nat.reduceMul, Nat.reduceSub, Nat.reduceDiv, Nat.reduceMod, Nat.reducePow, Nat.reduceEqDiff, ↓reduceIte, reduceCtorEq, Int.reduceToNat, Int.reduceAdd, Int.reduceSub, Int.reduceMul]
  refine ⟨fok204, over_cps kt ho (inF kt key 92) _ (inF_len _ _ _) (by rw [shF_len]; omega) _ (h3.mod0 hM02) (putF_WB _ _ _ _ _ WB0) (hK.mod hM02 (by simp)) _ fun w3 hM3 => .inl ⟨_, rfl, hold_dops okT (rs := [.tmp 4]) rfl ?_⟩⟩
  simp (maxSteps := 1000000) (disch := first | omega | (simp only [sizeAlloc, sizeDrew, sizeSet, sizePut] <;> omega) | fail) only [GS, TT_eq, TTl, Nat.reduceAdd, Nat.reduceMul, Nat.reduceSub, Nat.reduceDiv, Nat.reduceMod, Nat.reducePow, Nat.reduceEqDiff, ↓reduceIte, reduceCtorEq, Int.reduceToNat, Int.reduceAdd, Int.reduceSub, Int.reduceMul]
  exact hR _ (hM02.trans hM3 (by simp))
theorem hmSum_cps (kt : List Int) (key s : List UInt8) (hk : key.length ≤ 1152921504606846976) (hs : s.length ≤ 1000000000000) (w : World) (hK : KTab w kt) (R : Ending → World → Prop)
    (hR : ∀ w', Mod [] w w' → R (.returned (.string ⟨(hmF kt key s).toArray⟩)) w') : Calls Tryz.prog 196 #[.string ⟨key.toArray⟩, .string ⟨s.toArray⟩] w R := by
  refine calls_go 4000 okT Tryz.func196 rfl (rs := [.tmp 4]) rfl Tryz.ntmps196 (args := [.string ⟨key.toArray⟩, .string ⟨s.toArray⟩]) ?_
  simp (maxSteps := 1000000) (disch := first | omega | (simp only [sizeAlloc, sizeDrew, sizeSet, sizePut] <;> omega) | fail) only [GS, TT_eq, TTl, Nat.reduceAdd, Nat.reduceMul, Nat.reduceSub, Nat.reduceDiv, Nat.reduceMod, Nat.reducePow, Nat.reduceEqDiff, ↓reduceIte, reduceCtorEq, Int.reduceToNat, Int.reduceAdd, Int.reduceSub, Int.reduceMul]
  refine ⟨fok198, hmNew_cps kt key hk w hK _ fun k w1 hH hk1 hM1 => .inl ⟨_, rfl, hold_ops okT (rs := [.tmp 4]) rfl ?_⟩⟩
  simp (maxSteps := 1000000) (disch := first | omega | (simp only [sizeAlloc, sizeDrew, sizeSet, sizePut] <;> omega) | fail) only [GS, TT_eq, TTl, Nat.reduceAdd, Nat.reduceMul, Nat.reduceSub, Nat.reduceDiv, Nat.reduceMod, Nat.reducePow, Nat.reduceEqDiff, ↓reduceIte, reduceCtorEq, Int.reduceToNat, Int.reduceAdd, Int.reduceSub, Int.reduceMul]
  refine ⟨fok199, hkSum_cps kt k key s hs w1 hH (hK.mod hM1 (by simp)) _ fun w2 hM2 => .inl ⟨_, rfl, hold_ops okT (rs := [.tmp 4]) rfl ?_⟩⟩
  simp (maxSteps := 1000000) (disch := first | omega | (simp only [sizeAlloc, sizeDrew, sizeSet, sizePut] <;> omega) | fail) only [GS, TT_eq, TTl, Nat.reduceAdd, Nat.reduceMul, Nat.reduceSub, Nat.reduceDiv, Nat.reduceMod, Nat.reducePow, Nat.reduceEqDiff, ↓reduceIte, reduceCtorEq, Int.reduceToNat, Int.reduceAdd, Int.reduceSub, Int.reduceMul]
  exact hR _ (hM1.trans hM2 (by simp))
open Go.Lib
def keyW : List UInt8 := [107, 101, 121, 32]
def keyBy (kt : List Int) (m n : List UInt8) : List UInt8 × Int := if (atomS n).2 = 0 then dataS (hmF kt m (keyW ++ n)) else ([], (atomS n).2)
def macBy (kt : List Int) (k t : List UInt8) : List UInt8 × Int := if kindS k = 1 then dataS (hmF kt (textS k).1 t) else ([], 2)
theorem text_len (t : List UInt8) : (textS t).1.length ≤ t.length := by
  unfold textS
  split
  · generalize hX : readTextS (t.drop 1) 1024 = X
    obtain ⟨u, n, e⟩ := X
    have := (readTextS_len hX).2
    rw [List.length_drop] at this
    simp only
    omega
  · simp
theorem atom_len (n : List UInt8) (h : (atomS n).2 = 0) : n.length ≤ 32 := by
  unfold atomS at h
  by_cases h1 : 32 < n.length
  · rw [if_pos h1] at h; exact absurd h (by decide)
  · omega
theorem sText_cps (t : List UInt8) (ht : t.length ≤ maxLen) (w : World) (R : Ending → World → Prop) (hR : ∀ w', Mod [] w w' → R (.returned (.tuple #[.string ⟨(textS t).1.toArray⟩, .bool (decide (kindS t = 1))])) w') :
    Calls Tryz.prog 197 #[.string ⟨t.toArray⟩] w R := by
  refine calls_go 4000 okT Tryz.func197 rfl (rs := [.tmp 2, .tmp 3]) rfl Tryz.ntmps197 (args := [.string ⟨t.toArray⟩]) ?_
  simp (maxSteps := 1000000) (disch := first | omega | (simp only [sizeAlloc, sizeDrew, sizeSet, sizePut] <;> omega) | fail) only [GS, TT_eq, TTl, Nat.reduceAdd, Nat.reduceMul, Nat.reduceSub, Nat.reduceDiv, Nat.reduceMod, Nat.reducePow, Nat.reduceEqDiff, ↓reduceIte, reduceCtorEq, Int.reduceToNat, Int.reduceAdd, Int.reduceSub, Int.reduceMul]
  refine ⟨fok136, tText_cps t ht _ _ fun w1 hM1 => .inl ⟨_, rfl, hold_ops okT (rs := [.tmp 2, .tmp 3]) rfl ?_⟩⟩
  have h2 : (textS t).2 = decide (kindS t = 1 ∨ kindS t = 2) := by
    unfold textS
    by_cases h : kindS t = 1 ∨ kindS t = 2
    · rw [if_pos h, decide_eq_true h]
    · rw [if_neg h, decide_eq_false h]
  by_cases h : kindS t = 1 ∨ kindS t = 2
  · rw [decide_eq_true h] at h2
    rw [h2]
    simp (maxSteps := 1000000) (disch := first | omega | (simp only [sizeAlloc, sizeDrew, sizeSet, sizePut] <;> omega) | fail) only [GS, TT_eq, TTl, Nat.reduceAdd, Nat.reduceMul, Nat.reduceSub, Nat.reduceDiv, Nat.reduceMod, Nat.reducePow, Nat.reduceEqDiff, ↓reduceIte, reduceCtorEq, Int.reduceToNat, Int.reduceAdd, Int.reduceSub, Int.reduceMul]
    refine ⟨fok32, tKind_cps t ht _ _ fun w2 hM2 => .inl ⟨_, rfl, hold_ops okT (rs := [.tmp 2, .tmp 3]) rfl ?_⟩⟩
    have e : decide (((kindS t : Nat) : Int) = 1) = decide (kindS t = 1) := decide_eq_decide.2 (by omega)
    simp (maxSteps := 1000000) (disch := first | omega | (simp only [sizeAlloc, sizeDrew, sizeSet, sizePut] <;> omega) | fail) only [GS, TT_eq, TTl, Nat.reduceAdd, Nat.reduceMul, Nat.reduceSub, Nat.reduceDiv, Nat.reduceMod, Nat.reducePow, Nat.reduceEqDiff, ↓reduceIte, reduceCtorEq, Int.reduceToNat, Int.reduceAdd, Int.reduceSub, Int.reduceMul, e]
    exact hR _ (hM1.trans hM2 (by simp))
  · rw [decide_eq_false h] at h2
    rw [h2]
    rw [decide_eq_false (fun e => h (.inl e))] at hR
    simp (maxSteps := 1000000) (disch := first | omega | (simp only [sizeAlloc, sizeDrew, sizeSet, sizePut] <;> omega) | fail) only [GS, TT_eq, TTl, Nat.reduceAdd, Nat.reduceMul, Nat.reduceSub, Nat.reduceDiv, Nat.reduceMod, Nat.reducePow, Nat.reduceEqDiff, ↓reduceIte, reduceCtorEq, Int.reduceToNat, Int.reduceAdd, Int.reduceSub, Int.reduceMul]
    exact hR _ hM1
theorem byKey_cps (kt : List Int) (m n : List UInt8) (hm : m.length ≤ 1000000) (hn : n.length ≤ maxLen) (w : World) (hK : KTab w kt) (R : Ending → World → Prop) (hR : ∀ w', Mod [] w w' → R (.returned (stV (keyBy kt m n))) w') :
    Calls Tryz.prog 192 #[.agg #[.string ⟨m.toArray⟩], .string ⟨n.toArray⟩] w R := by
  unfold keyBy at hR
  refine calls_go 4000 okT Tryz.func192 rfl (rs := [.tmp 4, .tmp 5]) rfl Tryz.ntmps192 (args := [.agg #[.string ⟨m.toArray⟩], .string ⟨n.toArray⟩]) ?_
  simp (maxSteps := 1000000) (disch := first | omega | (simp only [sizeAlloc, sizeDrew, sizeSet, sizePut] <;> omega) | fail) only [GS, TT_eq, TTl, Nat.reduceAdd, Nat.reduceMul, Nat.reduceSub, Nat.reduceDiv, Nat.reduceMod, Nat.reducePow, Nat.reduceEqDiff, ↓reduceIte, reduceCtorEq, Int.reduceToNat, Int.reduceAdd, Int.reduceSub, Int.reduceMul]
  have hB := heapNew (w := w) (o := .cells #[.string ⟨m.toArray⟩] 82)
  have hM0 := (Mod.refl [] w).alloc (.cells #[.string ⟨m.toArray⟩] 82)
  generalize w.alloc _ = w0 at *
  refine ⟨fok189, tAtom_cps n hn _ _ fun w1 hM1 => .inl ⟨_, rfl, hold_ops okT (rs := [.tmp 4, .tmp 5]) rfl ?_⟩⟩
  have hM01 := hM0.trans hM1 (by simp)
  have hB1 := cellOf (o := 0) (hM1.get hB (by simp))
  have hal := atom_len n
  generalize atomS n = A at *
  obtain ⟨at', ae⟩ := A
  by_cases he : ae = 0
  · subst he
    rw [if_pos rfl] at hR
    have hl := hal rfl
    have hl2 : (keyW ++ n).length ≤ 1000 := by unfold keyW; simp; omega
    have hkl := hmF_len kt m (keyW ++ n)
    unfold stV
    simp (maxSteps := 1000000) (disch := first | omega | (simp only [sizeAlloc, sizeDrew, sizeSet, sizePut] <;> omega) | fail) only [GS, TT_eq, TTl, Nat.reduceAdd, Nat.reduceMul, Nat.reduceSub, Nat.reduceDiv, Nat.reduceMod, Nat.reducePow, Nat.reduceEqDiff, ↓reduceIte, reduceCtorEq, Int.reduceToNat, Int.reduceAdd, Int.reduceSub, Int.reduceMul, hB1]
    refine ⟨fok196, hmSum_cps kt m (keyW ++ n) (by omega) (by omega) _ (hK.mod hM01 (by simp)) _ fun w2 hM2 => .inl ⟨_, rfl, hold_ops okT (rs := [.tmp 4, .tmp 5]) rfl ?_⟩⟩
    generalize hmF kt m (keyW ++ n) = K at *
    simp (maxSteps := 1000000) (disch := first | omega | (simp only [sizeAlloc, sizeDrew, sizeSet, sizePut] <;> omega) | fail) only [GS, TT_eq, TTl, Nat.reduceAdd, Nat.reduceMul, Nat.reduceSub, Nat.reduceDiv, Nat.reduceMod, Nat.reducePow, Nat.reduceEqDiff, ↓reduceIte, reduceCtorEq, Int.reduceToNat, Int.reduceAdd, Int.reduceSub, Int.reduceMul]
    refine ⟨fok40, tData_cps K (by unfold maxLen; omega) _ _ fun w3 hM3 => .inl ⟨_, rfl, hold_ops okT (rs := [.tmp 4, .tmp 5]) rfl ?_⟩⟩
    unfold stV at hR ⊢
    simp (maxSteps := 1000000) (disch := first | omega | (simp only [sizeAlloc, sizeDrew, sizeSet, sizePut] <;> omega) | fail) only [GS, TT_eq, TTl, Nat.reduceAdd, Nat.reduceMul, Nat.reduceSub, Nat.reduceDiv, Nat.reduceMod, Nat.reducePow, Nat.reduceEqDiff, ↓reduceIte, reduceCtorEq, Int.reduceToNat, Int.reduceAdd, Int.reduceSub, Int.reduceMul]
    exact hR _ ((hM01.trans hM2 (by simp)).trans hM3 (by simp))
  · rw [if_neg he] at hR
    unfold stV at hR ⊢
    simp (maxSteps := 1000000) (disch := first | omega | (simp only [sizeAlloc, sizeDrew, sizeSet, sizePut] <;> omega) | fail) only [GS, TT_eq, TTl, Nat.reduceAdd, Nat.reduceMul, Nat.reduceSub, Nat.reduceDiv, Nat.reduceMod, Nat.reducePow, Nat.reduceEqDiff, ↓reduceIte, reduceCtorEq, Int.reduceToNat, Int.reduceAdd, Int.reduceSub, Int.reduceMul, he]
    exact hR _ hM01
theorem byMac_cps (kt : List Int) (m k t : List UInt8) (hk : k.length ≤ 1000000) (ht : t.length ≤ 1000000) (w : World) (hK : KTab w kt) (R : Ending → World → Prop) (hR : ∀ w', Mod [] w w' → R (.returned (stV (macBy kt k t))) w') :
    Calls Tryz.prog 193 #[.agg #[.string ⟨m.toArray⟩], .string ⟨k.toArray⟩, .string ⟨t.toArray⟩] w R := by
  unfold macBy at hR
  refine calls_go 4000 okT Tryz.func193 rfl (rs := [.tmp 6, .tmp 7]) rfl Tryz.ntmps193 (args := [.agg #[.string ⟨m.toArray⟩], .string ⟨k.toArray⟩, .string ⟨t.toArray⟩]) ?_
  simp (maxSteps := 1000000) (disch := first | omega | (simp only [sizeAlloc, sizeDrew, sizeSet, sizePut] <;> omega) | fail) only [GS, TT_eq, TTl, Nat.reduceAdd, Nat.reduceMul, Nat.reduceSub, Nat.reduceDiv, Nat.reduceMod, Nat.reducePow, Nat.reduceEqDiff, ↓reduceIte, reduceCtorEq, Int.reduceToNat, Int.reduceAdd, Int.reduceSub, Int.reduceMul]
  have hM0 := (Mod.refl [] w).alloc (.cells #[.string ⟨m.toArray⟩] 82)
  generalize w.alloc _ = w0 at *
  refine ⟨fok197, sText_cps k (by unfold maxLen; omega) _ _ fun w1 hM1 => .inl ⟨_, rfl, hold_ops okT (rs := [.tmp 6, .tmp 7]) rfl ?_⟩⟩
  have hM01 := hM0.trans hM1 (by simp)
  have htl := text_len k
  by_cases h1 : kindS k = 1
  · rw [if_pos h1] at hR
    rw [decide_eq_true h1]
    generalize (textS k).1 = tk at *
    simp (maxSteps := 1000000) (disch := first | omega | (simp only [sizeAlloc, sizeDrew, sizeSet, sizePut] <;> omega) | fail) only [GS, TT_eq, TTl, Nat.reduceAdd, Nat.reduceMul, Nat.reduceSub, Nat.reduceDiv, Nat.reduceMod, Nat.reducePow, Nat.reduceEqDiff, ↓reduceIte, reduceCtorEq, Int.reduceToNat, Int.reduceAdd, Int.reduceSub, Int.reduceMul]
    have hkl := hmF_len kt tk t
    refine ⟨fok196, hmSum_cps kt tk t (by omega) (by omega) _ (hK.mod hM01 (by simp)) _ fun w2 hM2 => .inl ⟨_, rfl, hold_ops okT (rs := [.tmp 6, .tmp 7]) rfl ?_⟩⟩
    generalize hmF kt tk t = K at *
    simp (maxSteps := 1000000) (disch := first | omega | (simp only [sizeAlloc, sizeDrew, sizeSet, sizePut] <;> omega) | fail) only [GS, TT_eq, TTl, Nat.reduceAdd, Nat.reduceMul, Nat.reduceSub, Nat.reduceDiv, Nat.reduceMod, Nat.reducePow, Nat.reduceEqDiff, ↓reduceIte, reduceCtorEq, Int.reduceToNat, Int.reduceAdd, Int.reduceSub, Int.reduceMul]
    refine ⟨fok40, tData_cps K (by unfold maxLen; omega) _ _ fun w3 hM3 => .inl ⟨_, rfl, hold_ops okT (rs := [.tmp 6, .tmp 7]) rfl ?_⟩⟩
    unfold stV at hR ⊢
    simp (maxSteps := 1000000) (disch := first | omega | (simp only [sizeAlloc, sizeDrew, sizeSet, sizePut] <;> omega) | fail) only [GS, TT_eq, TTl, Nat.reduceAdd, Nat.reduceMul, Nat.reduceSub, Nat.reduceDiv, Nat.reduceMod, Nat.reducePow, Nat.reduceEqDiff, ↓reduceIte, reduceCtorEq, Int.reduceToNat, Int.reduceAdd, Int.reduceSub, Int.reduceMul]
    exact hR _ ((hM01.trans hM2 (by simp)).trans hM3 (by simp))
  · rw [if_neg h1] at hR
    rw [decide_eq_false h1]
    unfold stV at hR
    simp (maxSteps := 1000000) (disch := first | omega | (simp only [sizeAlloc, sizeDrew, sizeSet, sizePut] <;> omega) | fail) only [GS, TT_eq, TTl, Nat.reduceAdd, Nat.reduceMul, Nat.reduceSub, Nat.reduceDiv, Nat.reduceMod, Nat.reducePow, Nat.reduceEqDiff, ↓reduceIte, reduceCtorEq, Int.reduceToNat, Int.reduceAdd, Int.reduceSub, Int.reduceMul]
    exact hR _ hM01
/-- A suite's kind, and its master. -/
inductive Sut where
  | trm
  | byt (m : List UInt8)
def sutT : Sut → Nat
  | .trm => 76
  | .byt _ => 82
def sutV : Sut → Value
  | .trm => .agg #[]
  | .byt m => .agg #[.string ⟨m.toArray⟩]
def sutO : Sut → Prop
  | .trm => True
  | .byt m => m.length ≤ 1000000
def isS (w : World) (s : Nat) (σ : Sut) : Prop := w.heap[s]? = some (.cells #[.iface (sutT σ) (sutV σ)] 80 (0, 0)) ∧ sutO σ
theorem isS.mod {w w' : World} {s : Nat} {σ : Sut} (h : isS w s σ) (hM : Mod [] w w') : isS w' s σ := ⟨hM.get h.1 (by simp), h.2⟩
def keyG (kt : List Int) : Sut → List UInt8 → List UInt8 × Int
  | .trm, n => atomS n
  | .byt m, n => keyBy kt m n
def macG (kt : List Int) (σ : Sut) (k t : List UInt8) : List UInt8 × Int :=
  if allS [k, t] = true then (match σ with | .trm => madeS [109] [k, t] | .byt _ => macBy kt k t) else ([], 2)
theorem nKey (m : List UInt8) (w : World) : (method (Tryz.prog.types.size + Made.depth) 82 (.agg #[.string ⟨m.toArray⟩]) "chirograph/suite.key").run Tryz.prog w = .ok (192, .agg #[.string ⟨m.toArray⟩]) w := by kernel_rfl
theorem nMac (m : List UInt8) (w : World) : (method (Tryz.prog.types.size + Made.depth) 82 (.agg #[.string ⟨m.toArray⟩]) "chirograph/suite.mac").run Tryz.prog w = .ok (193, .agg #[.string ⟨m.toArray⟩]) w := by kernel_rfl
/-- What suite there is of a kind and a master. -/
def sutN (k : Nat) (m : List UInt8) : Option Sut := if k = 1 then some .trm else if k = 2 ∧ 1 ≤ m.length ∧ m.length ≤ 64 then some (.byt m) else none
theorem gNew_cps (k : Nat) (hk : k < 256) (m : List UInt8) (hm : m.length ≤ maxLen) (w : World) (R : Ending → World → Prop) (h0 : sutN k m = none → R (.returned (.tuple #[.pointer none, .int .i64 2])) w)
    (hR : ∀ σ w', sutN k m = some σ → isS w' w.heap.size σ → Mod [] w w' → R (.returned (.tuple #[.pointer (some ⟨w.heap.size, 0, none⟩), .int .i64 0])) w') :
    Calls Tryz.prog 6 #[.int .u8 k, .string ⟨m.toArray⟩] w R := by
  unfold maxLen at hm
  unfold sutN at h0 hR
  refine calls_go 4000 okT Tryz.func6 rfl (rs := [.tmp 4, .tmp 5]) rfl Tryz.ntmps6 (args := [.int .u8 k, .string ⟨m.toArray⟩]) ?_
  by_cases h1 : k = 1
  · subst h1
    simp (maxSteps := 1000000) (disch := first | omega | (simp only [sizeAlloc, sizeDrew, sizeSet, sizePut] <;> omega) | fail) only [GS, TT_eq, TTl, Nat.reduceAdd, Nat.reduceMul, Nat.reduceSub, Nat.reduceDiv, Nat.reduceMod, Nat.reducePow, Nat.reduceEqDiff, ↓reduceIte, reduceCtorEq, Int.reduceToNat, Int.reduceAdd, Int.reduceSub, Int.reduceMul]
    exact hR .trm _ rfl ⟨heapNew, trivial⟩ ((Mod.refl [] w).alloc _)
  rw [if_neg h1] at h0 hR
  by_cases h2 : k = 2
  rotate_left
  · rw [if_neg (fun e => h2 e.1)] at h0
    simp (maxSteps := 1000000) (disch := first | omega | (simp only [sizeAlloc, sizeDrew, sizeSet, sizePut] <;> omega) | fail) only [GS, TT_eq, TTl, Nat.reduceAdd, Nat.reduceMul, Nat.reduceSub, Nat.reduceDiv, Nat.reduceMod, Nat.reducePow, Nat.reduceEqDiff, ↓reduceIte, reduceCtorEq, Int.reduceToNat, Int.reduceAdd, Int.reduceSub, Int.reduceMul]
    exact h0 rfl
  subst h2
  by_cases h3 : 1 ≤ m.length
  rotate_left
  · rw [if_neg (fun e => h3 e.2.1)] at h0
    simp (maxSteps := 1000000) (disch := first | omega | (simp only [sizeAlloc, sizeDrew, sizeSet, sizePut] <;> omega) | fail) only [GS, TT_eq, TTl, Nat.reduceAdd, Nat.reduceMul, Nat.reduceSub, Nat.reduceDiv, Nat.reduceMod, Nat.reducePow, Nat.reduceEqDiff, ↓reduceIte, reduceCtorEq, Int.reduceToNat, Int.reduceAdd, Int.reduceSub, Int.reduceMul]
    exact h0 rfl
  by_cases h4 : m.length ≤ 64
  rotate_left
  · rw [if_neg (fun e => h4 e.2.2)] at h0
    simp (maxSteps := 1000000) (disch := first | omega | (simp only [sizeAlloc, sizeDrew, sizeSet, sizePut] <;> omega) | fail) only [GS, TT_eq, TTl, Nat.reduceAdd, Nat.reduceMul, Nat.reduceSub, Nat.reduceDiv, Nat.reduceMod, Nat.reducePow, Nat.reduceEqDiff, ↓reduceIte, reduceCtorEq, Int.reduceToNat, Int.reduceAdd, Int.reduceSub, Int.reduceMul]
    exact h0 rfl
  rw [if_pos ⟨rfl, h3, h4⟩] at hR
  simp (maxSteps := 1000000) (disch := first | omega | (simp only [sizeAlloc, sizeDrew, sizeSet, sizePut] <;> omega) | fail) only [GS, TT_eq, TTl, Nat.reduceAdd, Nat.reduceMul, Nat.reduceSub, Nat.reduceDiv, Nat.reduceMod, Nat.reducePow, Nat.reduceEqDiff, ↓reduceIte, reduceCtorEq, Int.reduceToNat, Int.reduceAdd, Int.reduceSub, Int.reduceMul]
  exact hR (.byt m) _ rfl ⟨heapNew, by show m.length ≤ 1000000; omega⟩ ((Mod.refl [] w).alloc _)
theorem gKey_cps (kt : List Int) (σ : Sut) (s : Nat) (n : List UInt8) (hn : n.length ≤ maxLen) (w : World) (h : isS w s σ) (hK : KTab w kt) (R : Ending → World → Prop) (hR : ∀ w', Mod [] w w' → R (.returned (stV (keyG kt σ n))) w') :
    Calls Tryz.prog 65 #[.pointer (some ⟨s, 0, none⟩), .string ⟨n.toArray⟩] w R := by
  have c := cellOf (o := 0) h.1
  refine calls_go 4000 okT Tryz.func65 rfl (rs := [.tmp 4, .tmp 5]) rfl Tryz.ntmps65 (args := [.pointer (some ⟨s, 0, none⟩), .string ⟨n.toArray⟩]) ?_
  cases σ with
  | trm =>
    simp (maxSteps := 1000000) (disch := first | omega | (simp only [sizeAlloc, sizeDrew, sizeSet, sizePut] <;> omega) | fail) only [GS, TT_eq, TTl, Nat.reduceAdd, Nat.reduceMul, Nat.reduceSub, Nat.reduceDiv, Nat.reduceMod, Nat.reducePow, Nat.reduceEqDiff, ↓reduceIte, reduceCtorEq, Int.reduceToNat, Int.reduceAdd, Int.reduceSub, Int.reduceMul, c]
    refine hold_invoke rfl rfl (mKey _) fok187 (sKeyT_cps n hn _ _ fun w2 hM2 => .inl ⟨_, rfl, hold_ops okT (rs := [.tmp 4, .tmp 5]) rfl ?_⟩)
    unfold keyG at hR
    unfold stV at hR ⊢
    simp (maxSteps := 1000000) (disch := first | omega | (simp only [sizeAlloc, sizeDrew, sizeSet, sizePut] <;> omega) | fail) only [GS, TT_eq, TTl, Nat.reduceAdd, Nat.reduceMul, Nat.reduceSub, Nat.reduceDiv, Nat.reduceMod, Nat.reducePow, Nat.reduceEqDiff, ↓reduceIte, reduceCtorEq, Int.reduceToNat, Int.reduceAdd, Int.reduceSub, Int.reduceMul]
    exact hR _ hM2
  | byt m =>
    have hm : m.length ≤ 1000000 := h.2
    simp (maxSteps := 1000000) (disch := first | omega | (simp only [sizeAlloc, sizeDrew, sizeSet, sizePut] <;> omega) | fail) only [GS, TT_eq, TTl, Nat.reduceAdd, Nat.reduceMul, Nat.reduceSub, Nat.reduceDiv, Nat.reduceMod, Nat.reducePow, Nat.reduceEqDiff, ↓reduceIte, reduceCtorEq, Int.reduceToNat, Int.reduceAdd, Int.reduceSub, Int.reduceMul, c]
    refine hold_invoke rfl rfl (nKey m _) fok192 (byKey_cps kt m n hm hn _ hK _ fun w2 hM2 => .inl ⟨_, rfl, hold_ops okT (rs := [.tmp 4, .tmp 5]) rfl ?_⟩)
    unfold keyG at hR
    unfold stV at hR ⊢
    simp (maxSteps := 1000000) (disch := first | omega | (simp only [sizeAlloc, sizeDrew, sizeSet, sizePut] <;> omega) | fail) only [GS, TT_eq, TTl, Nat.reduceAdd, Nat.reduceMul, Nat.reduceSub, Nat.reduceDiv, Nat.reduceMod, Nat.reducePow, Nat.reduceEqDiff, ↓reduceIte, reduceCtorEq, Int.reduceToNat, Int.reduceAdd, Int.reduceSub, Int.reduceMul]
    exact hR _ hM2
theorem gMac_cps (kt : List Int) (σ : Sut) (s : Nat) (k t : List UInt8) (hk : k.length ≤ 1000000) (ht : t.length ≤ 1000000) (w : World) (h : isS w s σ) (hK : KTab w kt) (R : Ending → World → Prop) (hR : ∀ w', Mod [] w w' → R (.returned (stV (macG kt σ k t))) w') :
    Calls Tryz.prog 66 #[.pointer (some ⟨s, 0, none⟩), .string ⟨k.toArray⟩, .string ⟨t.toArray⟩] w R := by
  unfold macG at hR
  refine calls_go 4000 okT Tryz.func66 rfl (rs := [.tmp 6, .tmp 7]) rfl Tryz.ntmps66 (args := [.pointer (some ⟨s, 0, none⟩), .string ⟨k.toArray⟩, .string ⟨t.toArray⟩]) ?_
  simp (maxSteps := 1000000) (disch := first | omega | (simp only [sizeAlloc, sizeDrew, sizeSet, sizePut] <;> omega) | fail) only [GS, TT_eq, TTl, Nat.reduceAdd, Nat.reduceMul, Nat.reduceSub, Nat.reduceDiv, Nat.reduceMod, Nat.reducePow, Nat.reduceEqDiff, ↓reduceIte, reduceCtorEq, Int.reduceToNat, Int.reduceAdd, Int.reduceSub, Int.reduceMul]
  have hrd : Rd (w.alloc (.cells #[.string ⟨k.toArray⟩, .string ⟨t.toArray⟩] 9)) 1 (.slice (some ⟨w.heap.size, 0, none⟩) 2 2) 2 ([k, t].map strV) := Rd.lit (n := 2) (xs := [.string ⟨k.toArray⟩, .string ⟨t.toArray⟩]) rfl
  have hM0 := (Mod.refl [] w).alloc (.cells #[.string ⟨k.toArray⟩, .string ⟨t.toArray⟩] 9)
  have h1 := h.mod hM0
  generalize w.alloc (.cells #[.string ⟨k.toArray⟩, .string ⟨t.toArray⟩] 9) = w1 at hrd hM0 h1 ⊢
  refine ⟨fok105, sMay_cps s _ [k, t] (by simp) (fun t ht => by simp only [List.mem_cons, List.not_mem_nil, or_false] at ht; unfold maxLen; rcases ht with rfl | rfl <;> omega) _ hrd _ fun w2 hM2 => .inl ⟨_, rfl, hold_ops okT (rs := [.tmp 6, .tmp 7]) rfl ?_⟩⟩
  have hM02 := hM0.trans hM2 (by simp)
  have c := cellOf (o := 0) (h1.mod hM2).1
  by_cases hal : allS [k, t] = true
  · rw [if_pos hal] at hR ⊢
    cases σ with
    | trm =>
      simp (maxSteps := 1000000) (disch := first | omega | (simp only [sizeAlloc, sizeDrew, sizeSet, sizePut] <;> omega) | fail) only [GS, TT_eq, TTl, Nat.reduceAdd, Nat.reduceMul, Nat.reduceSub, Nat.reduceDiv, Nat.reduceMod, Nat.reducePow, Nat.reduceEqDiff, ↓reduceIte, reduceCtorEq, Int.reduceToNat, Int.reduceAdd, Int.reduceSub, Int.reduceMul, c]
      refine hold_invoke rfl rfl (mMac _) fok188 (sMacT_cps k t hk ht _ _ fun w3 hM3 => .inl ⟨_, rfl, hold_ops okT (rs := [.tmp 6, .tmp 7]) rfl ?_⟩)
      unfold stV at hR ⊢
      simp (maxSteps := 1000000) (disch := first | omega | (simp only [sizeAlloc, sizeDrew, sizeSet, sizePut] <;> omega) | fail) only [GS, TT_eq, TTl, Nat.reduceAdd, Nat.reduceMul, Nat.reduceSub, Nat.reduceDiv, Nat.reduceMod, Nat.reducePow, Nat.reduceEqDiff, ↓reduceIte, reduceCtorEq, Int.reduceToNat, Int.reduceAdd, Int.reduceSub, Int.reduceMul]
      exact hR _ (hM02.trans hM3 (by simp))
    | byt m =>
      simp (maxSteps := 1000000) (disch := first | omega | (simp only [sizeAlloc, sizeDrew, sizeSet, sizePut] <;> omega) | fail) only [GS, TT_eq, TTl, Nat.reduceAdd, Nat.reduceMul, Nat.reduceSub, Nat.reduceDiv, Nat.reduceMod, Nat.reducePow, Nat.reduceEqDiff, ↓reduceIte, reduceCtorEq, Int.reduceToNat, Int.reduceAdd, Int.reduceSub, Int.reduceMul, c]
      refine hold_invoke rfl rfl (nMac m _) fok193 (byMac_cps kt m k t hk ht _ (hK.mod hM02 (by simp)) _ fun w3 hM3 => .inl ⟨_, rfl, hold_ops okT (rs := [.tmp 6, .tmp 7]) rfl ?_⟩)
      unfold stV at hR ⊢
      simp (maxSteps := 1000000) (disch := first | omega | (simp only [sizeAlloc, sizeDrew, sizeSet, sizePut] <;> omega) | fail) only [GS, TT_eq, TTl, Nat.reduceAdd, Nat.reduceMul, Nat.reduceSub, Nat.reduceDiv, Nat.reduceMod, Nat.reducePow, Nat.reduceEqDiff, ↓reduceIte, reduceCtorEq, Int.reduceToNat, Int.reduceAdd, Int.reduceSub, Int.reduceMul]
      exact hR _ (hM02.trans hM3 (by simp))
  · rw [if_neg hal] at hR ⊢
    unfold stV at hR
    simp (maxSteps := 1000000) (disch := first | omega | (simp only [sizeAlloc, sizeDrew, sizeSet, sizePut] <;> omega) | fail) only [GS, TT_eq, TTl, Nat.reduceAdd, Nat.reduceMul, Nat.reduceSub, Nat.reduceDiv, Nat.reduceMod, Nat.reducePow, Nat.reduceEqDiff, ↓reduceIte, reduceCtorEq, Int.reduceToNat, Int.reduceAdd, Int.reduceSub, Int.reduceMul]
    exact hR _ hM02
theorem made_lenI (f : List UInt8) (l : List (List UInt8)) : (madeS f l).1.length ≤ 16384 := by
  unfold madeS
  split
  · split
    · rename_i h; exact (check0 h).2.2.1
    · simp
  · simp
theorem keyG_len (kt : List Int) (σ : Sut) (n : List UInt8) : (keyG kt σ n).1.length ≤ 16384 := by
  have ha : (atomS n).1.length ≤ 1034 := by
    unfold atomS
    split
    · simp
    · split
      · have := numL_len (v := n.length) (by omega)
        simp; omega
      · simp
  cases σ with
  | trm => show (atomS n).1.length ≤ _; omega
  | byt m =>
    show (keyBy kt m n).1.length ≤ _
    unfold keyBy
    split
    · have := dataS_len (hmF kt m (keyW ++ n)); omega
    · simp
theorem macG_len (kt : List Int) (σ : Sut) (k t : List UInt8) : (macG kt σ k t).1.length ≤ 16384 := by
  unfold macG
  split
  · cases σ with
    | trm => exact made_lenI _ _
    | byt m =>
      show (macBy kt k t).1.length ≤ _
      unfold macBy
      split
      · have := dataS_len (hmF kt (textS k).1 t); omega
      · simp
  · simp
end Go.Proofs.YtdflchgfhmjhbaaGreatDoor
