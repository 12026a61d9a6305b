/-
  sha: New, Copy, Write (walks).
-/
import Derived.Test.YtoladcdelaemoaaQeSha2
set_option linter.unusedSimpArgs false
set_option linter.unusedVariables false
set_option maxRecDepth 20000
namespace Go.Proofs.Ytoladcdelaemoaa
open Go Go.Wk Go.RowKit
attribute [local irreducible] go Hold
/-- What more bytes make of a sum: state, waiting bytes. -/
def putF (kt : List Int) : List Int → List Int → Nat → List UInt8 → List Int × List Int
  | st, wt, _, [] => (st, wt)
  | st, wt, n, c :: s => 
    let wt' := wt.set (n % 64) (c.toNat : Int)
    putF kt (if (n + 1) % 64 = 0 then takF kt st wt' else st) wt' (n + 1) s
theorem putF_app (kt : List Int) : ∀ (s t : List UInt8) (st wt : List Int) (n : Nat), putF kt st wt n (s ++ t) = putF kt (putF kt st wt n s).1 (putF kt st wt n s).2 (n + s.length) t
  | [], _, _, _, _ => rfl
  | c :: s, t, st, wt, n => by
    rw [List.cons_append, putF, putF_app kt s t, putF, List.length_cons, show n + (s.length + 1) = n + 1 + s.length by omega]
def st0 : List Int := [1779033703, 3144134277, 1013904242, 2773480762, 1359893119, 2600822924, 528734635, 1541459225]
def wt0 : List Int := List.replicate 64 0
set_option maxHeartbeats 2000000 in
theorem shaNew_cps (w : World) (R : Ending → World → Prop) (hR : ∀ h w', ShaAt w' h st0 wt0 0 → w.heap.size ≤ h → Mod [] w w' → R (.returned (.pointer (some ⟨h, 0, none⟩))) w') : Calls Try.prog 133 #[] w R := by
  refine calls_go 4000 okT Try.func133 rfl (rs := [.tmp 0]) rfl Try.ntmps133 (args := []) ?_
  simp (maxSteps := 1000000) (disch := first | omega | (simp only [sizeAlloc, sizeDrew, sizeSet, sizePut] <;> omega) | fail) only [GS, TT_eq, TTl, Nat.reduceAdd, Nat.reduceMul, Nat.reduceSub, Nat.reduceDiv, Nat.reduceMod, Nat.reducePow, Nat.reduceEqDiff, ↓reduceIte, reduceCtorEq, Int.reduceToNat, Int.reduceAdd, Int.reduceSub, Int.reduceMul]
  exact hR _ _ ⟨heapNew, rfl, rfl⟩ (Nat.le_refl _) ((Mod.refl [] w).alloc _)
theorem shaC_one {st wt : List Int} {n : Int} : ∀ v ∈ st.map u32V ++ (wt.map u8V ++ [Value.int .i64 n]), v.oneCell' = true := by
  intro v hv
  rcases List.mem_append.1 hv with h | h
  · obtain ⟨x, _, rfl⟩ := List.mem_map.1 h; rfl
  rcases List.mem_append.1 h with h | h
  · obtain ⟨x, _, rfl⟩ := List.mem_map.1 h; rfl
  · simp only [List.mem_singleton] at h; subst h; rfl
theorem addA0 {b i : Nat} : addA ⟨b, 0, none⟩ i = ⟨b, i, none⟩ := by rw [← addA_eq]; simp [Addr.add]; try omega
theorem stOk_all {w : World} {b tt : Nat} {l0 : List Value} (h : w.heap[b]? = some (.cells l0.toArray tt (0, 0))) : ∀ (vs : List Value) (i : Nat), i + vs.length ≤ l0.length → (∀ v ∈ vs, v.oneCell' = true) → stOk w ⟨b, 0, none⟩ i vs = some ()
  | [], _, _, _ => rfl
  | v :: vs, i, hi, h1 => by
    simp only [List.length_cons] at hi
    rw [stOk, stOk_all h vs (i + 1) (by omega) (fun u hu => h1 u (by simp [hu])), addA0, cellOf h, List.getElem?_toArray, List.getElem?_eq_getElem (by omega), frozenOf h, h1 v (by simp)]
    rfl
theorem setL_sets {b : Nat} : ∀ (vs : List Value) (i : Nat) (w : World), setL w ⟨b, 0, none⟩ i vs = w.setCells b i vs
  | [], _, _ => rfl
  | v :: vs, i, w => by rw [setL, setL_sets vs, World.setCells, addA0]
theorem ovw_all (l vs : List Value) (h : vs.length = l.length) : ovw l 0 vs = vs := by
  refine List.ext_getElem? fun i => ?_
  rw [ovw_get vs l 0 i (by omega)]
  by_cases hi : i < vs.length
  · rw [if_pos (by omega)]; rfl
  · rw [if_neg (by omega), List.getElem?_eq_none (by omega), List.getElem?_eq_none (by omega)]
theorem setL_all {w : World} {b tt : Nat} {l0 : List Value} (h : w.heap[b]? = some (.cells l0.toArray tt (0, 0))) (vs : List Value) (he : vs.length = l0.length) : (setL w ⟨b, 0, none⟩ 0 vs).heap[b]? = some (.cells vs.toArray tt (0, 0)) := by
  rw [setL_sets, heapSets vs 0 w h, ovw_all _ _ he]
theorem loadL_all {w : World} {b : Nat} {l : List Value} (h : ∀ j, j < l.length → w.cell? ⟨b, j, none⟩ = l[j]?) : ∀ (n i : Nat), i + n = l.length → loadL w ⟨b, 0, none⟩ i n = some (l.drop i)
  | 0, i, e => by rw [loadL, List.drop_eq_nil_of_le (by omega)]
  | n + 1, i, e => by
    have hi : i < l.length := by omega
    have ea : addA ⟨b, 0, none⟩ i = ⟨b, i, none⟩ := by rw [← addA_eq]; simp [Addr.add]; try omega
    rw [loadL, loadL_all h n (i + 1) (by omega), ea, h i hi, List.getElem?_eq_getElem hi, List.drop_eq_getElem_cons hi]
    rfl
set_option maxHeartbeats 2000000 in
theorem shaCopy_cps (h : Nat) (st wt : List Int) (n : Int) (w : World) (hS : ShaAt w h st wt n) (R : Ending → World → Prop) (hR : ∀ h' w', ShaAt w' h' st wt n → w.heap.size ≤ h' → Mod [] w w' → R (.returned (.pointer (some ⟨h', 0, none⟩))) w') : Calls Try.prog 142 #[.pointer (some ⟨h, 0, none⟩)] w R := by
  refine calls_go 4000 okT Try.func142 rfl (rs := [.tmp 2]) rfl Try.ntmps142 (args := [.pointer (some ⟨h, 0, none⟩)]) ?_
  have hL : loadL w ⟨h, 0, none⟩ 0 73 = some (st.map u32V ++ (wt.map u8V ++ [Value.int .i64 n])) := by
    have := loadL_all (w := w) (b := h) (l := st.map u32V ++ (wt.map u8V ++ [Value.int .i64 n])) (fun j hj => by rw [cellOf hS.1, List.getElem?_toArray]) 73 0 (by simp [hS.2.1, hS.2.2])
    simpa [hS.2.1, hS.2.2] using this
  have hlen : (st.map u32V ++ (wt.map u8V ++ [Value.int .i64 n])).length = 73 := by simp [hS.2.1, hS.2.2]
  obtain ⟨hS0, hS1, hS2⟩ := hS
  generalize hl : st.map u32V ++ (wt.map u8V ++ [Value.int .i64 n]) = l at *
  have hlen' : lenL l = 73 := by rw [lenL_eq]; exact hlen
  have h0 := heapNew (w := w) (o := .cells (List.toArray (Value.int .u32 0 :: Value.int .u32 0 :: Value.int .u32 0 :: Value.int .u32 0 :: Value.int .u32 0 :: Value.int .u32 0 :: Value.int .u32 0 :: Value.int .u32 0 :: Value.int .u8 0 :: Value.int .u8 0 :: Value.int .u8 0 :: Value.int .u8 0 :: Value.int .u8 0 :: Value.int .u8 0 :: Value.int .u8 0 :: Value.int .u8 0 :: Value.int .u8 0 :: Value.int .u8 0 :: Value.int .u8 0 :: Value.int .u8 0 :: Value.int .u8 0 :: Value.int .u8 0 :: Value.int .u8 0 :: Value.int .u8 0 :: Value.int .u8 0 :: Value.int .u8 0 :: Value.int .u8 0 :: Value.int .u8 0 :: Value.int .u8 0 :: Value.int .u8 0 :: Value.int .u8 0 :: Value.int .u8 0 :: Value.int .u8 0 :: Value.int .u8 0 :: Value.int .u8 0 :: Value.int .u8 0 :: Value.int .u8 0 :: Value.int .u8 0 :: Value.int .u8 0 :: Value.int .u8 0 :: Value.int .u8 0 :: Value.int .u8 0 :: Value.int .u8 0 :: Value.int .u8 0 :: Value.int .u8 0 :: Value.int .u8 0 :: Value.int .u8 0 :: Value.int .u8 0 :: Value.int .u8 0 :: Value.int .u8 0 :: Value.int .u8 0 :: Value.int .u8 0 :: Value.int .u8 0 :: Value.int .u8 0 :: Value.int .u8 0 :: Value.int .u8 0 :: Value.int .u8 0 :: Value.int .u8 0 :: Value.int .u8 0 :: Value.int .u8 0 :: Value.int .u8 0 :: Value.int .u8 0 :: Value.int .u8 0 :: Value.int .u8 0 :: Value.int .u8 0 :: Value.int .u8 0 :: Value.int .u8 0 :: Value.int .u8 0 :: Value.int .u8 0 :: Value.int .u8 0 :: Value.int .u8 0 :: Value.int .u8 0 :: Value.int .i64 0 :: [])) 175)
  have h1 : ∀ v ∈ l, v.oneCell' = true := by rw [← hl]; exact shaC_one
  have h2 := stOk_all h0 l 0 (by rw [hlen]; exact Nat.le_refl _) h1
  have h3 := setL_all h0 l hlen
  have hMa := modSets l 0 _ ((Mod.refl [] w).alloc (.cells (List.toArray (Value.int .u32 0 :: Value.int .u32 0 :: Value.int .u32 0 :: Value.int .u32 0 :: Value.int .u32 0 :: Value.int .u32 0 :: Value.int .u32 0 :: Value.int .u32 0 :: Value.int .u8 0 :: Value.int .u8 0 :: Value.int .u8 0 :: Value.int .u8 0 :: Value.int .u8 0 :: Value.int .u8 0 :: Value.int .u8 0 :: Value.int .u8 0 :: Value.int .u8 0 :: Value.int .u8 0 :: Value.int .u8 0 :: Value.int .u8 0 :: Value.int .u8 0 :: Value.int .u8 0 :: Value.int .u8 0 :: Value.int .u8 0 :: Value.int .u8 0 :: Value.int .u8 0 :: Value.int .u8 0 :: Value.int .u8 0 :: Value.int .u8 0 :: Value.int .u8 0 :: Value.int .u8 0 :: Value.int .u8 0 :: Value.int .u8 0 :: Value.int .u8 0 :: Value.int .u8 0 :: Value.int .u8 0 :: Value.int .u8 0 :: Value.int .u8 0 :: Value.int .u8 0 :: Value.int .u8 0 :: Value.int .u8 0 :: Value.int .u8 0 :: Value.int .u8 0 :: Value.int .u8 0 :: Value.int .u8 0 :: Value.int .u8 0 :: Value.int .u8 0 :: Value.int .u8 0 :: Value.int .u8 0 :: Value.int .u8 0 :: Value.int .u8 0 :: Value.int .u8 0 :: Value.int .u8 0 :: Value.int .u8 0 :: Value.int .u8 0 :: Value.int .u8 0 :: Value.int .u8 0 :: Value.int .u8 0 :: Value.int .u8 0 :: Value.int .u8 0 :: Value.int .u8 0 :: Value.int .u8 0 :: Value.int .u8 0 :: Value.int .u8 0 :: Value.int .u8 0 :: Value.int .u8 0 :: Value.int .u8 0 :: Value.int .u8 0 :: Value.int .u8 0 :: Value.int .u8 0 :: Value.int .u8 0 :: Value.int .u8 0 :: Value.int .i64 0 :: [])) 175)) (.inr (Nat.le_refl w.heap.size))
  rw [← setL_sets] at hMa
  simp (maxSteps := 1000000) (disch := first | omega | (simp only [sizeAlloc, sizeDrew, sizeSet, sizePut] <;> omega) | fail) only [GS, TT_eq, TTl, Nat.reduceAdd, Nat.reduceMul, Nat.reduceSub, Nat.reduceDiv, Nat.reduceMod, Nat.reducePow, Nat.reduceEqDiff, ↓reduceIte, reduceCtorEq, Int.reduceToNat, Int.reduceAdd, Int.reduceSub, Int.reduceMul, ↓hL, hlen', h2]
  exact hR _ _ ⟨by rw [hl]; exact h3, hS1, hS2⟩ (Nat.le_refl _) hMa
end Go.Proofs.Ytoladcdelaemoaa
