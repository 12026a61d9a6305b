/-
  cipher: the keys of a key; the stream's bytes (a range over a function that only its body ends) (walks).
-/
import Derived.Test.YtoladcdelaemoaaQeSha9
import Derived.Test.YtoladcdelaemoaaQeTrp
import Derived.Test.YtoladcdelaemoaaQeRec
import Derived.Test.YtoladcdelaemoaaQeDve
import Derived.Test.YtoladcdelaemoaaQeGs
import Derived.Deep.Slices
import Derived.Laws.AppendOwn
import Derived.Lib.ConvBytes
set_option linter.unusedSimpArgs false
set_option linter.unusedVariables false
set_option maxRecDepth 20000
namespace Go.Proofs.Ytoladcdelaemoaa
open Go Go.Wk Go.RowKit
attribute [local irreducible] go Hold
open Go.Lib
/-- The words "stream" and "tag". -/
def strW : List UInt8 := [115, 116, 114, 101, 97, 109]
def tagW : List UInt8 := [116, 97, 103]
/-- No part of a tag's key stands here. -/
def Oth (w : World) (s : Nat) : Prop := ∀ cs t fr, w.heap[s]? = some (.cells cs t fr) → t ≠ 182 ∧ t ≠ 175
theorem Oth.of {w : World} {s t : Nat} {cs : Array Value} {fr : Nat × Nat} (h : w.heap[s]? = some (.cells cs t fr)) (h1 : t ≠ 182) (h2 : t ≠ 175) : Oth w s := fun cs' t' fr' e => by
  rw [h] at e
  injection e with e
  injection e with _ e2 _
  subst e2
  exact ⟨h1, h2⟩
theorem HkAt.modS {S : List Nat} {w w' : World} {k : Nat} {kt : List Int} {key : List UInt8} (h : HkAt w k kt key) (hM : Mod S w w') (hs : ∀ s ∈ S, Oth w s) : HkAt w' k kt key := by
  obtain ⟨hi, ho, a, b, c⟩ := h
  exact ⟨hi, ho, hM.get a fun hx => (hs _ hx _ _ _ a).1 rfl, ⟨hM.get b.1 fun hx => (hs _ hx _ _ _ b.1).2 rfl, b.2⟩, ⟨hM.get c.1 fun hx => (hs _ hx _ _ _ c.1).2 rfl, c.2⟩⟩
theorem st2c {w W : World} {p t : Nat} {fr : Nat × Nat} {a0 a1 x0 x1 : Value} (hz : w.heap[p]? = some (.cells #[a0, a1] t fr)) (hW : (w.setCell ⟨p, 0, none⟩ x0).setCell ⟨p, 1, none⟩ x1 = W) : W.heap[p]? = some (.cells #[x0, x1] t fr) ∧ Mod [p] w W := by
  subst hW
  have h0 : (w.setCell ⟨p, 0, none⟩ x0).heap[p]? = some (.cells #[x0, a1] t fr) := by rw [heapSet hz]; rfl
  refine ⟨?_, ((Mod.refl [p] w).set (p := ⟨p, 0, none⟩) (.inl (by simp)) x0).set (p := ⟨p, 1, none⟩) (.inl (by simp)) x1⟩
  rw [heapSet h0]; rfl
theorem load2c {w : World} {p : Nat} {K : Value → World → Prop} {x0 x1 : Value} (hh : w.heap[p]? = some (.cells #[x0, x1] 169 (0, 0))) (hK : K (.agg #[x0, x1]) w) : loadW TT 169 (.pointer (some ⟨p, 0, none⟩)) w K := by
  have c0 := cellOf (o := 0) hh
  have c1 := cellOf (o := 1) hh
  exact ⟨_, c0, _, c1, hK⟩
set_option maxHeartbeats 4000000 in
theorem cOf_cps (kt : List Int) (key : List UInt8) (hk : key.length ≤ 1000000000000) (w : World) (hK : KTab w kt) (R : Ending → World → Prop)
    (hR : ∀ a b w', HkAt w' a kt (hmF kt key strW) → HkAt w' b kt (hmF kt key tagW) → Mod [] w w' → R (.returned (.agg #[.pointer (some ⟨a, 0, none⟩), .pointer (some ⟨b, 0, none⟩)])) w') :
    Calls Try.prog 138 #[.string ⟨key.toArray⟩] w R := by
  refine calls_go 4000 okT Try.func138 rfl (rs := [.cell 2 169]) rfl Try.ntmps138 (args := [.string ⟨key.toArray⟩]) ?_
  simp (maxSteps := 1000000) (disch := first | omega | (simp only [sizeAlloc, sizeDrew, sizeSet, sizePut] <;> omega) | fail) only [GS, TT_eq, TTl, Nat.reduceAdd, Nat.reduceMul, Nat.reduceSub, Nat.reduceDiv, Nat.reduceMod, Nat.reducePow, Nat.reduceEqDiff, ↓reduceIte, reduceCtorEq, Int.reduceToNat, Int.reduceAdd, Int.reduceSub, Int.reduceMul]
  have hB0 := heapNew (w := w) (o := .cells #[.pointer none, .pointer none] 169)
  have hM0 := (Mod.refl [] w).alloc (.cells #[.pointer none, .pointer none] 169)
  generalize w.alloc (.cells #[.pointer none, .pointer none] 169) = w0 at hB0 hM0 ⊢
  have hK0 := hK.mod hM0 (by simp)
  refine ⟨fok129, hmSum_cps kt key strW (by omega) (by decide) _ hK0 _ fun w1 hM1 => .inl ⟨_, rfl, hold_ops okT (rs := [.cell 2 169]) rfl ?_⟩⟩
  have hK1 := hK0.mod hM1 (by simp)
  have hl1 := hmF_len kt key strW
  generalize hmF kt key strW = k1 at *
  simp (maxSteps := 1000000) (disch := first | omega | (simp only [sizeAlloc, sizeDrew, sizeSet, sizePut] <;> omega) | fail) only [GS, TT_eq, TTl, Nat.reduceAdd, Nat.reduceMul, Nat.reduceSub, Nat.reduceDiv, Nat.reduceMod, Nat.reducePow, Nat.reduceEqDiff, ↓reduceIte, reduceCtorEq, Int.reduceToNat, Int.reduceAdd, Int.reduceSub, Int.reduceMul]
  refine ⟨fok136, hmNew_cps kt k1 (by omega) _ hK1 _ fun a w2 hA2 ha2 hM2 => .inl ⟨_, rfl, hold_ops okT (rs := [.cell 2 169]) rfl ?_⟩⟩
  have hK2 := hK1.mod hM2 (by simp)
  simp (maxSteps := 1000000) (disch := first | omega | (simp only [sizeAlloc, sizeDrew, sizeSet, sizePut] <;> omega) | fail) only [GS, TT_eq, TTl, Nat.reduceAdd, Nat.reduceMul, Nat.reduceSub, Nat.reduceDiv, Nat.reduceMod, Nat.reducePow, Nat.reduceEqDiff, ↓reduceIte, reduceCtorEq, Int.reduceToNat, Int.reduceAdd, Int.reduceSub, Int.reduceMul]
  refine ⟨fok129, hmSum_cps kt key tagW (by omega) (by decide) _ hK2 _ fun w3 hM3 => .inl ⟨_, rfl, hold_ops okT (rs := [.cell 2 169]) rfl ?_⟩⟩
  have hK3 := hK2.mod hM3 (by simp)
  have hl2 := hmF_len kt key tagW
  generalize hmF kt key tagW = k2 at *
  simp (maxSteps := 1000000) (disch := first | omega | (simp only [sizeAlloc, sizeDrew, sizeSet, sizePut] <;> omega) | fail) only [GS, TT_eq, TTl, Nat.reduceAdd, Nat.reduceMul, Nat.reduceSub, Nat.reduceDiv, Nat.reduceMod, Nat.reducePow, Nat.reduceEqDiff, ↓reduceIte, reduceCtorEq, Int.reduceToNat, Int.reduceAdd, Int.reduceSub, Int.reduceMul]
  refine ⟨fok136, hmNew_cps kt k2 (by omega) _ hK3 _ fun b w4 hB4 hb4 hM4 => .inl ⟨_, rfl, hold_ops okT (rs := [.cell 2 169]) rfl ?_⟩⟩
  have hA4 := (hA2.mod0 hM3).mod0 hM4
  have hM14 := ((hM1.trans hM2 (by simp)).trans hM3 (by simp)).trans hM4 (by simp)
  have hZ := hM14.get hB0 (by simp)
  have c0 := cellOf (o := 0) hZ
  have c1 := cellOf (o := 1) hZ
  have f0 := frozenOf (o := 0) hZ
  have f1 := frozenOf (o := 1) hZ
  simp (maxSteps := 1000000) (disch := first | omega | (simp only [sizeAlloc, sizeDrew, sizeSet, sizePut] <;> omega) | fail) only [GS, TT_eq, TTl, Nat.reduceAdd, Nat.reduceMul, Nat.reduceSub, Nat.reduceDiv, Nat.reduceMod, Nat.reducePow, Nat.reduceEqDiff, ↓reduceIte, reduceCtorEq, Int.reduceToNat, Int.reduceAdd, Int.reduceSub, Int.reduceMul, c0, c1, f0, f1]
  generalize hW : (w4.setCell _ _).setCell _ _ = w5
  obtain ⟨h5, hM5⟩ := st2c hZ hW
  have hO : ∀ s ∈ [w.heap.size], Oth w4 s := by intro s hs; simp only [List.mem_singleton] at hs; subst hs; exact .of hZ (by decide) (by decide)
  exact load2c h5 (hR _ _ _ (hA4.modS hM5 hO) (hB4.modS hM5 hO) ((hM0.trans hM14 (by simp)).trans hM5 (by intro y hy; simp only [List.mem_singleton] at hy; subst hy; exact .inr (Nat.le_refl _))))
/-- A counter's next: of four bytes, the first k of which may change. -/
def incK : Nat → List UInt8 → List UInt8
  | 0, a => a
  | k + 1, a => if a.getD k 0 + 1 ≠ 0 then a.set k (a.getD k 0 + 1) else incK k (a.set k (a.getD k 0 + 1))
theorem incK_len : ∀ (k : Nat) (a : List UInt8), (incK k a).length = a.length
  | 0, a => rfl
  | k + 1, a => by
    unfold incK
    split
    · simp
    · rw [incK_len k]; simp
def ctr : Nat → List UInt8
  | 0 => [0, 0, 0, 0]
  | i + 1 => incK 4 (ctr i)
theorem ctr_len : ∀ i, (ctr i).length = 4
  | 0 => rfl
  | i + 1 => by rw [ctr, incK_len, ctr_len i]
/-- The stream's blocks, and bytes. -/
def blkS (kt : List Int) (key nonce : List UInt8) (i : Nat) : List UInt8 := hmF kt key (nonce ++ ctr i)
def strm (kt : List Int) (key nonce : List UInt8) (j : Nat) : UInt8 := (blkS kt key nonce (j / 32)).getD (j % 32) 0
/-- What a round leaves as it was: the counter, and rows that were made of texts. -/
def KeepC (w w' : World) : Prop := ∀ (A : Nat) cs t fr, w.heap[A]? = some (.cells cs t fr) → (t = 189 ∨ fr ≠ (0, 0)) → w'.heap[A]? = some (.cells cs t fr)
theorem KeepC.of {S : List Nat} {w w' : World} (hM : Mod S w w') (hs : ∀ s ∈ S, ∀ cs t fr, w.heap[s]? = some (.cells cs t fr) → t ≠ 189 ∧ fr = (0, 0)) : KeepC w w' := fun A cs t fr h h2 => hM.get h fun hx => by
  obtain ⟨q1, q2⟩ := hs A hx cs t fr h
  rcases h2 with h2 | h2
  · exact q1 h2
  · exact h2 q2
set_option maxHeartbeats 2000000 in
theorem cBytes_cps (a b : Nat) (nonce : List UInt8) (w : World) (R : Ending → World → Prop)
    (hR : ∀ w', w'.heap[w.heap.size]? = some (.cells #[.pointer (some ⟨a, 0, none⟩), .pointer (some ⟨b, 0, none⟩)] 169 (0, 0)) → w'.heap[w.heap.size + 1]? = some (.cells #[.string ⟨nonce.toArray⟩] 9 (0, 0)) → Mod [] w w' → w'.heap.size = w.heap.size + 2 →
      R (.returned (.func (.func 149) #[] #[.pointer (some ⟨w.heap.size, 0, none⟩), .pointer (some ⟨w.heap.size + 1, 0, none⟩)])) w') :
    Calls Try.prog 147 #[.agg #[.pointer (some ⟨a, 0, none⟩), .pointer (some ⟨b, 0, none⟩)], .string ⟨nonce.toArray⟩] w R := by
  refine calls_go 4000 okT Try.func147 rfl (rs := [.tmp 4]) rfl Try.ntmps147 (args := [.agg #[.pointer (some ⟨a, 0, none⟩), .pointer (some ⟨b, 0, none⟩)], .string ⟨nonce.toArray⟩]) ?_
  simp (maxSteps := 1000000) (disch := first | omega | (simp only [sizeAlloc, sizeDrew, sizeSet, sizePut] <;> omega) | fail) only [GS, TT_eq, TTl, Nat.reduceAdd, Nat.reduceMul, Nat.reduceSub, Nat.reduceDiv, Nat.reduceMod, Nat.reducePow, Nat.reduceEqDiff, ↓reduceIte, reduceCtorEq, Int.reduceToNat, Int.reduceAdd, Int.reduceSub, Int.reduceMul]
  exact hR _ (by (simp only [heapA, sizeAlloc]; repeat (first | rfl | rw [if_neg (by omega)] | rw [if_pos (by omega)]))) (by (simp only [heapA, sizeAlloc]; repeat (first | rfl | rw [if_neg (by omega)] | rw [if_pos (by omega)]))) (((Mod.refl [] w).alloc _).alloc _) (by simp only [sizeAlloc])
theorem bw_mod (w : World) (e : Nat) (s : ByteArray) : Mod [] w (bytesWorld w e s) :=
  ⟨by simp [bytesWorld, World.freeze, World.alloc, World.drew, -World.alloc_eq, -World.drew_eq], by simp [bytesWorld, World.freeze, World.alloc, World.drew, -World.alloc_eq, -World.drew_eq], by simp [bytesWorld, World.freeze, World.alloc, World.drew, -World.alloc_eq, -World.drew_eq],
    by rw [bytesWorld_size]; omega, fun k hk _ => bytesWorld_at_old w e s k hk⟩
/-- The greatest number below N of which P holds. -/
noncomputable def best (P : Nat → Prop) : Nat → Nat
  | 0 => 0
  | n + 1 => if @decide (P n) (Classical.propDecidable _) = true then n else best P n
theorem best_spec {P : Nat → Prop} : ∀ {N i : Nat}, i < N → P i → P (best P N) ∧ i ≤ best P N ∧ best P N < N
  | N + 1, i, h, hp => by
    unfold best
    by_cases hN : P N
    · rw [if_pos (@decide_eq_true _ (Classical.propDecidable _) hN)]
      exact ⟨hN, by omega, by omega⟩
    · rw [if_neg (by rw [@decide_eq_true_iff _ (Classical.propDecidable _)]; exact hN)]
      have hi : i ≠ N := by rintro rfl; exact hN hp
      obtain ⟨a, b, c⟩ := best_spec (P := P) (N := N) (i := i) (by omega) hp
      exact ⟨a, b, by omega⟩
set_option maxRecDepth 20000 in
set_option maxHeartbeats 8000000 in
theorem cBytes1_cps (kt : List Int) (key nonce : List UInt8) (hn : nonce.length ≤ 1000000) (ka kb bx1 bx2 l N : Nat) (w : World) (R : Ending → World → Prop) (Inv : Nat → World → Prop) (Out : World → Prop) (hN : 0 < N) (h0 : Inv 0 w)
    (hm : ∀ j w1 w2 (S : List Nat), Inv j w1 → Mod S w1 w2 → (∀ s ∈ S, w.heap.size ≤ s ∧ ∃ cs fr, w1.heap[s]? = some (.cells cs 189 fr)) → Inv j w2)
    (hrd : ∀ j w1, Inv j w1 → w1.heap[bx1]? = some (.cells #[.pointer (some ⟨ka, 0, none⟩), .pointer (some ⟨kb, 0, none⟩)] 169 (0, 0)) ∧ w1.heap[bx2]? = some (.cells #[.string ⟨nonce.toArray⟩] 9 (0, 0)) ∧ HkAt w1 ka kt key ∧ KTab w1 kt)
    (hout : ∀ w1, Out w1 → R (.returned (.tuple #[])) w1)
    (hstep : ∀ j, j < N → ∀ w1, Inv j w1 → yieldW Try.prog l #[.int .u8 ((strm kt key nonce j).toNat : Int)] w1 (fun u w' => (u = .bool true ∧ j + 1 < N ∧ Inv (j + 1) w' ∧ KeepC w1 w') ∨ (u = .bool false ∧ Out w')) (fun _ _ => False)) :
    Calls Try.prog 149 #[.func (.yield l) #[] #[], .pointer (some ⟨bx1, 0, none⟩), .pointer (some ⟨bx2, 0, none⟩)] w R := by
  obtain ⟨g1, g2, g3, g4⟩ := hrd _ _ h0
  have c10 := cellOf (o := 0) g1
  have c11 := cellOf (o := 1) g1
  have c20 := cellOf (o := 0) g2
  refine calls_go 4000 okT Try.func149 rfl (rs := []) rfl Try.ntmps149 (args := [.func (.yield l) #[] #[], .pointer (some ⟨bx1, 0, none⟩), .pointer (some ⟨bx2, 0, none⟩)]) ?_
  simp (maxSteps := 1000000) (disch := first | omega | (simp only [sizeAlloc, sizeDrew, sizeSet, sizePut] <;> omega) | fail) only [GS, TT_eq, TTl, Nat.reduceAdd, Nat.reduceMul, Nat.reduceSub, Nat.reduceDiv, Nat.reduceMod, Nat.reducePow, Nat.reduceEqDiff, ↓reduceIte, reduceCtorEq, Int.reduceToNat, Int.reduceAdd, Int.reduceSub, Int.reduceMul, c10, c11, c20, r_eq5]
  have hA0 := heapNew (w := w) (o := .cells ((ctr 0).map byteV).toArray 189)
  have hM0 := (Mod.refl [] w).alloc (.cells ((ctr 0).map byteV).toArray 189)
  have hI0 := hm _ _ _ _ h0 hM0 (by simp)
  have e0 : ∀ o, Obj.cells #[Value.int .u8 0, .int .u8 0, .int .u8 0, .int .u8 0] 189 = o → o = .cells ((ctr 0).map byteV).toArray 189 := fun o h => h.symm.trans rfl
  generalize hO : Obj.cells _ 189 = ob
  obtain rfl := e0 _ hO
  clear hO e0
  generalize w.alloc _ = w0 at *
  generalize hAe : w.heap.size = A at *
  refine hold_loop okT (rs := []) rfl [] [6, 7, 11, 12, 13, 14, 15, 16, 17, 18, 19, 20, 21, 22, 23, 24, 25, 26, 27, 28, 29, 30, 31, 32, 33, 34, 35, 36, 37, 38, 39, 40, 41] (fun vs w' => vs = [] ∧ ∃ i, i < N ∧ (32 * i < N ∧ Inv (32 * i) w' ∧ w'.heap[A]? = some (.cells ((ctr i).map byteV).toArray 189 (0, 0)))) (fun _ w' => N - best (fun i => 32 * i < N ∧ Inv (32 * i) w' ∧ w'.heap[A]? = some (.cells ((ctr i).map byteV).toArray 189 (0, 0))) N) (by kernel_rfl) ⟨rfl, 0, hN, hN, hI0, hA0⟩ ?_
  clear hA0 hI0 hM0 g1 g2 g3 g4 c10 c11 c20
  rintro vs w1 J ⟨rfl, i0, hi0, hP0⟩
  obtain ⟨hP, hge, hbN⟩ := best_spec (P := fun i => 32 * i < N ∧ Inv (32 * i) w1 ∧ w1.heap[A]? = some (.cells ((ctr i).map byteV).toArray 189 (0, 0))) hi0 hP0
  clear hP0 hge hi0 i0
  generalize best _ N = i at *
  obtain ⟨hiN, hI, hA⟩ := hP
  obtain ⟨g1, g2, g3, g4⟩ := hrd _ _ hI
  simp (maxSteps := 1000000) (disch := first | omega | (simp only [sizeAlloc, sizeDrew, sizeSet, sizePut] <;> omega) | fail) only [GS, TT_eq, TTl, Nat.reduceAdd, Nat.reduceMul, Nat.reduceSub, Nat.reduceDiv, Nat.reduceMod, Nat.reducePow, Nat.reduceEqDiff, ↓reduceIte, reduceCtorEq, Int.reduceToNat, Int.reduceAdd, Int.reduceSub, Int.reduceMul]
  have hI2 := hm _ _ _ _ hI (Mod.drewN 1 (Mod.refl [] w1)) (by simp)
  have hA2 : (w1.drewN 1).heap[A]? = some (.cells ((ctr i).map byteV).toArray 189 (0, 0)) := hA
  refine hold_tree okT [0, 1, 0, 0, 8, 28, 63, 127, 255, 0] (.qop 0 (.qop 1 (.qop 2 (.qop 3 (.qop 4 (.qop 5 (.qop 9 (.eff 6 (.eff 7 (.lin [8]) .stop) .stop)))))))) (by kernel_rfl) ?_
  clear hA hI g1 g2 g3 g4
  generalize w1.drewN 1 = w2 at *
  obtain ⟨g1, g2, g3, g4⟩ := hrd _ _ hI2
  have c10 := cellOf (o := 0) g1
  have c11 := cellOf (o := 1) g1
  have c20 := cellOf (o := 0) g2
  have hcl := ctr_len i
  have hL : loadL w2 ⟨A, 0, none⟩ 0 4 = some ((ctr i).map byteV) := by
    have := loadL_all (w := w2) (b := A) (l := (ctr i).map byteV) (fun j hj => by rw [cellOf hA2, List.getElem?_toArray]) 4 0 (by rw [List.length_map, hcl])
    simpa using this
  have hbL : bytesL ((ctr i).map byteV) = some (ctr i) := bytesL_map _
  refine ht_val okT rfl rfl (v := .pointer (some ⟨bx1, 0, none⟩)) (by simp (maxSteps := 1000000) (disch := first | omega | (simp only [sizeAlloc, sizeDrew, sizeSet, sizePut] <;> omega) | fail) only [GS, TT_eq, TTl, Nat.reduceAdd, Nat.reduceMul, Nat.reduceSub, Nat.reduceDiv, Nat.reduceMod, Nat.reducePow, Nat.reduceEqDiff, ↓reduceIte, reduceCtorEq, Int.reduceToNat, Int.reduceAdd, Int.reduceSub, Int.reduceMul]) ?_
  refine ht_val okT rfl rfl (v := .pointer (some ⟨ka, 0, none⟩)) (by simp (maxSteps := 1000000) (disch := first | omega | (simp only [sizeAlloc, sizeDrew, sizeSet, sizePut] <;> omega) | fail) only [GS, TT_eq, TTl, Nat.reduceAdd, Nat.reduceMul, Nat.reduceSub, Nat.reduceDiv, Nat.reduceMod, Nat.reducePow, Nat.reduceEqDiff, ↓reduceIte, reduceCtorEq, Int.reduceToNat, Int.reduceAdd, Int.reduceSub, Int.reduceMul, c10]) ?_
  refine ht_val okT rfl rfl (v := .string ⟨nonce.toArray⟩) (by simp (maxSteps := 1000000) (disch := first | omega | (simp only [sizeAlloc, sizeDrew, sizeSet, sizePut] <;> omega) | fail) only [GS, TT_eq, TTl, Nat.reduceAdd, Nat.reduceMul, Nat.reduceSub, Nat.reduceDiv, Nat.reduceMod, Nat.reducePow, Nat.reduceEqDiff, ↓reduceIte, reduceCtorEq, Int.reduceToNat, Int.reduceAdd, Int.reduceSub, Int.reduceMul, c20]) ?_
  refine ht_val okT rfl rfl (v := .slice (some ⟨A, 0, none⟩) 4 4) (by simp (maxSteps := 1000000) (disch := first | omega | (simp only [sizeAlloc, sizeDrew, sizeSet, sizePut] <;> omega) | fail) only [GS, TT_eq, TTl, Nat.reduceAdd, Nat.reduceMul, Nat.reduceSub, Nat.reduceDiv, Nat.reduceMod, Nat.reducePow, Nat.reduceEqDiff, ↓reduceIte, reduceCtorEq, Int.reduceToNat, Int.reduceAdd, Int.reduceSub, Int.reduceMul, slArr0]) ?_
  refine ht_val okT rfl rfl (v := .string ⟨(ctr i).toArray⟩) (by simp (maxSteps := 1000000) (disch := first | omega | (simp only [sizeAlloc, sizeDrew, sizeSet, sizePut] <;> omega) | fail) only [GS, TT_eq, TTl, Nat.reduceAdd, Nat.reduceMul, Nat.reduceSub, Nat.reduceDiv, Nat.reduceMod, Nat.reducePow, Nat.reduceEqDiff, ↓reduceIte, reduceCtorEq, Int.reduceToNat, Int.reduceAdd, Int.reduceSub, Int.reduceMul, ↓hL, hbL]) ?_
  refine ht_val okT rfl rfl (v := .string ⟨(nonce ++ ctr i).toArray⟩) (by simp (maxSteps := 1000000) (disch := first | omega | (simp only [sizeAlloc, sizeDrew, sizeSet, sizePut] <;> omega) | fail) only [GS, TT_eq, TTl, Nat.reduceAdd, Nat.reduceMul, Nat.reduceSub, Nat.reduceDiv, Nat.reduceMod, Nat.reducePow, Nat.reduceEqDiff, ↓reduceIte, reduceCtorEq, Int.reduceToNat, Int.reduceAdd, Int.reduceSub, Int.reduceMul, hcl, List.length_append]) ?_
  refine ht_val okT rfl rfl (v := .int .i64 0) (by simp (maxSteps := 1000000) (disch := first | omega | (simp only [sizeAlloc, sizeDrew, sizeSet, sizePut] <;> omega) | fail) only [GS, TT_eq, TTl, Nat.reduceAdd, Nat.reduceMul, Nat.reduceSub, Nat.reduceDiv, Nat.reduceMod, Nat.reducePow, Nat.reduceEqDiff, ↓reduceIte, reduceCtorEq, Int.reduceToNat, Int.reduceAdd, Int.reduceSub, Int.reduceMul]) ?_
  refine ht_call okT rfl rfl ?_ ht_stop
  simp (maxSteps := 1000000) only [GS, TT_eq, TTl, Nat.reduceAdd, Nat.reduceMul, Nat.reduceSub, Nat.reduceDiv, Nat.reduceMod, Nat.reducePow, Nat.reduceEqDiff, ↓reduceIte, reduceCtorEq, Int.reduceToNat, Int.reduceAdd, Int.reduceSub, Int.reduceMul, loudW_call]
  refine ⟨fok137, hkSum_cps kt ka key _ (by rw [List.length_append, hcl]; omega) w2 g3 g4 _ fun w3 hM3 => .inl ⟨_, rfl, ?_⟩⟩
  have hI3 := hm _ _ _ _ hI2 hM3 (by simp)
  have hA3 := hM3.get hA2 (by simp)
  have hbl : hmF kt key (nonce ++ ctr i) = blkS kt key nonce i := rfl
  have hbL32 : (blkS kt key nonce i).length = 32 := hmF_len _ _ _
  rw [hbl]
  clear hbl hL hbL c10 c11 c20 g1 g2 g3 g4 hA2 hI2 hM3
  have hst : ∀ k, k < 32 → strm kt key nonce (32 * i + k) = (blkS kt key nonce i).getD k 0 := fun k hk => by unfold strm; rw [show (32 * i + k) / 32 = i by omega, show (32 * i + k) % 32 = k by omega]
  generalize blkS kt key nonce i = bl at *
  refine ht_effE (w' := bytesWorld w3 5 ⟨bl.toArray⟩) (v := .slice (some ⟨w3.heap.size, 0, none⟩) 32 (grownCap w3 32 0 5)) rfl rfl ?_ ?_ ?_ ht_stop
  · have hsz : (⟨bl.toArray⟩ : ByteArray).size = 32 := by rw [← hbL32]; simp [ByteArray.size]
    have hrun := Go.Lib.run_convert_string_bytes (P := Try.prog) w3 9 66 5 ⟨bl.toArray⟩ (u := .string) (by kernel_rfl) (by kernel_rfl) (by kernel_rfl)
    rw [hsz] at hrun
    unfold execOp
    simp only [ev_eq, ev, Sem.run_bind, Sem.run_pure]
    change ((Sem.run Try.prog (convert 9 66 (.string ⟨bl.toArray⟩)) w3).andThen fun a w' => Result.ok (Next.value a) w') = _
    rw [hrun]
    rfl
  · simp (maxSteps := 1000000) only [GS, TT_eq, TTl, Nat.reduceAdd, Nat.reduceMul, Nat.reduceSub, Nat.reduceDiv, Nat.reduceMod, Nat.reducePow, Nat.reduceEqDiff, ↓reduceIte, reduceCtorEq, Int.reduceToNat, Int.reduceAdd, Int.reduceSub, Int.reduceMul]
  refine ht_lin rfl (hold_dops okT (rs := []) rfl ?_)
  have hMb := bw_mod w3 5 ⟨bl.toArray⟩
  have hB := bytesWorld_at_new w3 5 ⟨bl.toArray⟩
  have hBc := fun j hj => bytesWorld_cell w3 5 ⟨bl.toArray⟩ j hj
  have hBl : (bytesWorld w3 5 ⟨bl.toArray⟩).heap.size = w3.heap.size + 1 := bytesWorld_size ..
  have hI4 := hm _ _ _ _ hI3 hMb (by simp)
  have hA4 := hMb.get hA3 (by simp)
  generalize bytesWorld w3 5 ⟨bl.toArray⟩ = w4 at *
  generalize bytesCells w3 5 ⟨bl.toArray⟩ = bc at *
  generalize grownCap w3 32 0 5 = gc
  generalize w3.heap.size = B at *
  have hbcg : ∀ j (hj : j < bl.length), bc[j]? = some (.int .u8 (bl[j].toNat : Int)) := by
    intro j hj
    have := hBc j (by simpa [ByteArray.size] using hj)
    rw [cellOf hB] at this
    rw [this]
    simp [List.getD_eq_getElem?_getD, hj]
  clear hBc hMb hI3 hA3
  simp (maxSteps := 1000000) (disch := first | omega | (simp only [sizeAlloc, sizeDrew, sizeSet, sizePut] <;> omega) | fail) only [GS, TT_eq, TTl, Nat.reduceAdd, Nat.reduceMul, Nat.reduceSub, Nat.reduceDiv, Nat.reduceMod, Nat.reducePow, Nat.reduceEqDiff, ↓reduceIte, reduceCtorEq, Int.reduceToNat, Int.reduceAdd, Int.reduceSub, Int.reduceMul]
  refine hold_loop okT (rs := []) rfl [20] [6, 21, 22, 23, 24, 25, 26, 27, 28] (fun vs w' => ∃ k : Nat, k ≤ 32 ∧ vs = [.int .i64 k] ∧ 32 * i + k < N ∧ Inv (32 * i + k) w' ∧ w'.heap[A]? = some (.cells ((ctr i).map byteV).toArray 189 (0, 0)) ∧ w'.heap[B]? = some (.cells bc 5 (bc.size, bc.size + 1))) (fun vs _ => match vs with | [.int _ k] => 32 - k.toNat | _ => 0) (by kernel_rfl) ⟨0, by omega, rfl, hiN, hI4, hA4, hB⟩ ?_
  clear hI4 hA4 hB
  rintro vs w5 J5 ⟨k, hk, rfl, hkN, hI, hA, hB⟩
  by_cases hlt : k < 32
  · have hkb : k < bl.length := by omega
    have c5 : w5.cell? ⟨B, k, none⟩ = some (.int .u8 (bl[k].toNat : Int)) := by rw [cellOf hB]; exact hbcg k hkb
    have hy := hstep _ hkN _ hI
    rw [hst k hlt, List.getD_eq_getElem?_getD, List.getElem?_eq_getElem hkb, Option.getD_some] at hy
    simp (maxSteps := 1000000) (disch := first | omega | (simp only [sizeAlloc, sizeDrew, sizeSet, sizePut] <;> omega) | fail) only [GS, TT_eq, TTl, Nat.reduceAdd, Nat.reduceMul, Nat.reduceSub, Nat.reduceDiv, Nat.reduceMod, Nat.reducePow, Nat.reduceEqDiff, ↓reduceIte, reduceCtorEq, Int.reduceToNat, Int.reduceAdd, Int.reduceSub, Int.reduceMul, c5]
    refine yieldW_mono hy ?_ (fun _ _ h => h.elim)
    rintro u w6 (⟨rfl, hN6, hI6, hK6⟩ | ⟨rfl, hO⟩)
    · refine hold_ops okT (rs := []) rfl ?_
      simp (maxSteps := 1000000) (disch := first | omega | (simp only [sizeAlloc, sizeDrew, sizeSet, sizePut] <;> omega) | fail) only [GS, TT_eq, TTl, Nat.reduceAdd, Nat.reduceMul, Nat.reduceSub, Nat.reduceDiv, Nat.reduceMod, Nat.reducePow, Nat.reduceEqDiff, ↓reduceIte, reduceCtorEq, Int.reduceToNat, Int.reduceAdd, Int.reduceSub, Int.reduceMul]
      exact ⟨⟨k + 1, by omega, rfl, hN6, hI6, hK6 _ _ _ _ hA (.inl rfl), hK6 _ _ _ _ hB (.inr (by simp))⟩, by omega⟩
    · refine hold_ops okT (rs := []) rfl ?_
      simp (maxSteps := 1000000) (disch := first | omega | (simp only [sizeAlloc, sizeDrew, sizeSet, sizePut] <;> omega) | fail) only [GS, TT_eq, TTl, Nat.reduceAdd, Nat.reduceMul, Nat.reduceSub, Nat.reduceDiv, Nat.reduceMod, Nat.reducePow, Nat.reduceEqDiff, ↓reduceIte, reduceCtorEq, Int.reduceToNat, Int.reduceAdd, Int.reduceSub, Int.reduceMul]
      exact hout _ hO
  · have e : k = 32 := by omega
    subst e
    simp (maxSteps := 1000000) (disch := first | omega | (simp only [sizeAlloc, sizeDrew, sizeSet, sizePut] <;> omega) | fail) only [GS, TT_eq, TTl, Nat.reduceAdd, Nat.reduceMul, Nat.reduceSub, Nat.reduceDiv, Nat.reduceMod, Nat.reducePow, Nat.reduceEqDiff, ↓reduceIte, reduceCtorEq, Int.reduceToNat, Int.reduceAdd, Int.reduceSub, Int.reduceMul]
    refine hold_loop okT (rs := []) rfl [7] [29, 30, 31, 32, 33, 34, 35, 36, 37, 38, 39, 40, 41] (fun vs w' => ∃ (m : Nat) (a : List UInt8), m ≤ 4 ∧ vs = [.int .i64 ((m : Int) - 1)] ∧ a.length = 4 ∧ incK m a = ctr (i + 1) ∧ w'.heap[A]? = some (.cells (a.map byteV).toArray 189 (0, 0)) ∧ Mod [A] w5 w') (fun vs _ => match vs with | [.int _ k] => (k + 1).toNat | _ => 0) (by kernel_rfl) ⟨4, ctr i, by omega, rfl, hcl, rfl, hA, Mod.refl _ _⟩ ?_
    rintro vs w6 J6 ⟨m, a, hm4, rfl, hal, hinc, hA6, hM6⟩
    have hend : ∀ w7, w7.heap[A]? = some (.cells ((ctr (i + 1)).map byteV).toArray 189 (0, 0)) → Mod [A] w5 w7 → (32 * (i + 1) < N ∧ Inv (32 * (i + 1)) w7 ∧ w7.heap[A]? = some (.cells ((ctr (i + 1)).map byteV).toArray 189 (0, 0))) := by
      intro w7 h7 hM7
      refine ⟨by omega, ?_, h7⟩
      rw [show 32 * (i + 1) = 32 * i + 32 by omega]
      exact hm _ _ _ _ hI hM7 (by intro s hs; simp only [List.mem_singleton] at hs; subst hs; exact ⟨by omega, _, _, hA⟩)
    have hfin : ∀ w7, w7.heap[A]? = some (.cells ((ctr (i + 1)).map byteV).toArray 189 (0, 0)) → Mod [A] w5 w7 → (∃ i, i < N ∧ (32 * i < N ∧ Inv (32 * i) w7 ∧ w7.heap[A]? = some (.cells ((ctr i).map byteV).toArray 189 (0, 0)))) ∧ N - best (fun i => 32 * i < N ∧ Inv (32 * i) w7 ∧ w7.heap[A]? = some (.cells ((ctr i).map byteV).toArray 189 (0, 0))) N < N - i := by
      intro w7 h7 hM7
      have he := hend w7 h7 hM7
      have hl : i + 1 < N := by omega
      have hb := best_spec (P := fun i => 32 * i < N ∧ Inv (32 * i) w7 ∧ w7.heap[A]? = some (.cells ((ctr i).map byteV).toArray 189 (0, 0))) hl he
      exact ⟨⟨i + 1, hl, he⟩, by omega⟩
    cases m with
    | zero =>
      have hinc : a = ctr (i + 1) := hinc
      subst hinc
      simp (maxSteps := 1000000) (disch := first | omega | (simp only [sizeAlloc, sizeDrew, sizeSet, sizePut] <;> omega) | fail) only [GS, TT_eq, TTl, Nat.reduceAdd, Nat.reduceMul, Nat.reduceSub, Nat.reduceDiv, Nat.reduceMod, Nat.reducePow, Nat.reduceEqDiff, ↓reduceIte, reduceCtorEq, Int.reduceToNat, Int.reduceAdd, Int.reduceSub, Int.reduceMul]
      exact hfin w6 hA6 hM6
    | succ m =>
      have hma : m < a.length := by omega
      have e1 : (((m + 1 : Nat) : Int) - 1) = (m : Int) := by omega
      have cA : w6.cell? ⟨A, m, none⟩ = some (.int .u8 (a[m].toNat : Int)) := by rw [cellOf hA6, List.getElem?_toArray, List.getElem?_map, List.getElem?_eq_getElem hma]; rfl
      have fA : w6.frozen? ⟨A, m, none⟩ = false := frozenOf hA6
      have hgd : a.getD m 0 = a[m] := by rw [List.getD_eq_getElem?_getD, List.getElem?_eq_getElem hma]; rfl
      unfold incK at hinc
      rw [hgd] at hinc
      generalize a[m] = c at *
      have hc := c.toNat_lt
      have hc1 : (c + 1).toNat = (c.toNat + 1) % 256 := by rw [UInt8.toNat_add]; rfl
      rw [e1]
      have hA7 := heapSet (o := m) (v := .int .u8 ((c + 1).toNat : Int)) hA6
      have hset : ((a.map byteV).toArray.setIfInBounds m (.int .u8 ((c + 1).toNat : Int))) = ((a.set m (c + 1)).map byteV).toArray := by rw [List.setIfInBounds_toArray, List.map_set]; rfl
      rw [hset] at hA7
      have hM7 := hM6.set (p := ⟨A, m, none⟩) (.inl (by simp)) (.int .u8 ((c + 1).toNat : Int))
      have hal7 : (a.set m (c + 1)).length = 4 := by rw [List.length_set]; exact hal
      have cA7 : (w6.setCell ⟨A, m, none⟩ (.int .u8 ((c + 1).toNat : Int))).cell? ⟨A, m, none⟩ = some (.int .u8 ((c + 1).toNat : Int)) := by
        rw [cellOf hA7, List.getElem?_toArray, List.getElem?_map, List.getElem?_set]; simp [hma, byteV]
      by_cases h255 : c.toNat = 255
      · have hz : c + 1 = 0 := UInt8.toNat_inj.1 (by rw [hc1, h255]; rfl)
        rw [if_neg (by rw [hz]; simp)] at hinc
        have hz2 : ((c + 1).toNat : Int) = 0 := by rw [hz]; rfl
        rw [hz2] at hA7 hM7 cA7
        rw [h255] at cA
        have hw : IntKind.u8.wrap 256 = 0 := rfl
        simp (maxSteps := 1000000) (disch := first | omega | (simp only [sizeAlloc, sizeDrew, sizeSet, sizePut] <;> omega) | fail) only [GS, TT_eq, TTl, Nat.reduceAdd, Nat.reduceMul, Nat.reduceSub, Nat.reduceDiv, Nat.reduceMod, Nat.reducePow, Nat.reduceEqDiff, ↓reduceIte, reduceCtorEq, Int.reduceToNat, Int.reduceAdd, Int.reduceSub, Int.reduceMul, cA, fA, hw, cA7]
        exact ⟨⟨m, _, by omega, rfl, hal7, hinc, hA7, hM7⟩, by omega⟩
      · rw [if_pos (by intro h; have := congrArg UInt8.toNat h; rw [hc1] at this; have h0 : (0 : UInt8).toNat = 0 := rfl; omega)] at hinc
        have hz2 : ((c + 1).toNat : Int) = (c.toNat : Int) + 1 := by omega
        rw [hz2] at hA7 hM7 cA7
        simp (maxSteps := 1000000) (disch := first | omega | (simp only [sizeAlloc, sizeDrew, sizeSet, sizePut] <;> omega) | fail) only [GS, TT_eq, TTl, Nat.reduceAdd, Nat.reduceMul, Nat.reduceSub, Nat.reduceDiv, Nat.reduceMod, Nat.reducePow, Nat.reduceEqDiff, ↓reduceIte, reduceCtorEq, Int.reduceToNat, Int.reduceAdd, Int.reduceSub, Int.reduceMul, cA, fA, cA7]
        rw [← hinc] at hfin
        exact hfin _ hA7 hM7
end Go.Proofs.Ytoladcdelaemoaa
