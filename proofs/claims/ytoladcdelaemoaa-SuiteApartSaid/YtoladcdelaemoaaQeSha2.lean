/-
  sha: a block is taken in (walk).
-/
import Derived.Test.YtoladcdelaemoaaQeSha1
set_option linter.unusedSimpArgs false
set_option linter.unusedVariables false
set_option maxRecDepth 20000
namespace Go.Proofs.Ytoladcdelaemoaa
open Go Go.Wk Go.RowKit
attribute [local irreducible] go Hold
def u32V (x : Int) : Value := .int .u32 x
def u8V (x : Int) : Value := .int .u8 x
/-- A sum under way, as it stands in memory. -/
def ShaAt (w : World) (h : Nat) (st wt : List Int) (n : Int) : Prop := w.heap[h]? = some (.cells (st.map u32V ++ (wt.map u8V ++ [Value.int .i64 n])).toArray 175 (0, 0)) ∧ st.length = 8 ∧ wt.length = 64
def KTab (w : World) (kt : List Int) : Prop := (∃ tt fr, w.heap[1]? = some (.cells (kt.map u32V).toArray tt fr)) ∧ kt.length = 64
theorem ShaAt.mod0 {w w' : World} {h : Nat} {st wt : List Int} {n : Int} (a : ShaAt w h st wt n) (hM : Mod [] w w') : ShaAt w' h st wt n := ⟨hM.get a.1 (by simp), a.2⟩
theorem KTab.mod {S : List Nat} {w w' : World} {kt : List Int} (a : KTab w kt) (hM : Mod S w w') (h1 : 1 ∉ S) : KTab w' kt := by
  obtain ⟨⟨tt, fr, h⟩, l⟩ := a
  exact ⟨⟨tt, fr, hM.get h h1⟩, l⟩
def getI (l : List Int) (i : Nat) : Int := l.getD i 0
theorem u32_get {l : List Int} {i : Nat} (h : i < l.length) : (l.map u32V)[i]? = some (Value.int .u32 (getI l i)) := by
  rw [List.getElem?_map, List.getElem?_eq_getElem h]; simp [u32V, getI, h]
theorem sha_st {w : World} {h : Nat} {st wt : List Int} {n : Int} (a : ShaAt w h st wt n) {i : Nat} (hi : i < 8) : w.cell? ⟨h, i, none⟩ = some (Value.int .u32 (getI st i)) := by
  rw [cellOf a.1, List.getElem?_toArray, List.getElem?_append_left (by rw [List.length_map, a.2.1]; exact hi), u32_get (by rw [a.2.1]; exact hi)]
theorem sha_wt {w : World} {h : Nat} {st wt : List Int} {n : Int} (a : ShaAt w h st wt n) {i : Nat} (hi : i < 64) : w.cell? ⟨h, 8 + i, none⟩ = some (Value.int .u8 (getI wt i)) := by
  have h1 := a.2.1
  have h2 := a.2.2
  rw [cellOf a.1, List.getElem?_toArray, List.getElem?_append_right (by rw [List.length_map]; omega), List.getElem?_append_left (by rw [List.length_map, List.length_map]; omega), List.length_map, h1, show 8 + i - 8 = i by omega, List.getElem?_map, List.getElem?_eq_getElem (by omega)]
  simp [u8V, getI, h2, hi]
theorem sha_n {w : World} {h : Nat} {st wt : List Int} {n : Int} (a : ShaAt w h st wt n) : w.cell? ⟨h, 72, none⟩ = some (Value.int .i64 n) := by
  have h1 := a.2.1
  have h2 := a.2.2
  rw [cellOf a.1, List.getElem?_toArray, List.getElem?_append_right (by rw [List.length_map]; omega), List.getElem?_append_right (by rw [List.length_map, List.length_map]; omega)]
  simp [h1, h2]
/-- The words of a block. -/
def wdS (t : Nat) (c : Int) (ws : List Int) : List Int := ws.set t (bits .or .u32 (IntKind.u32.wrap (getI ws t * 2 ^ 8)) c)
def wdI (wt : List Int) (t : Nat) : Nat → List Int → List Int
  | 0, ws => ws
  | j + 1, ws => wdS t (getI wt (4 * t + j)) (wdI wt t j ws)
def wdO (wt : List Int) : Nat → List Int
  | 0 => List.replicate 16 0
  | t + 1 => wdI wt t 4 (wdO wt t)
theorem wdI_len (wt : List Int) (t : Nat) : ∀ (j : Nat) (ws : List Int), (wdI wt t j ws).length = ws.length
  | 0, _ => rfl
  | j + 1, ws => by rw [wdI, wdS, List.length_set, wdI_len]
theorem wdO_len (wt : List Int) : ∀ t, (wdO wt t).length = 16
  | 0 => rfl
  | t + 1 => by rw [wdO, wdI_len, wdO_len]
def WsAt (w : World) (b : Nat) (ws : List Int) : Prop := w.heap[b]? = some (.cells (ws.map u32V).toArray 185 (0, 0)) ∧ ws.length = 16
theorem ws_get {w : World} {b : Nat} {ws : List Int} (a : WsAt w b ws) {i : Nat} (hi : i < 16) : w.cell? ⟨b, i, none⟩ = some (Value.int .u32 (getI ws i)) := by
  rw [cellOf a.1, List.getElem?_toArray, u32_get (by rw [a.2]; exact hi)]
theorem ws_set {w : World} {b : Nat} {ws : List Int} (a : WsAt w b ws) {i : Nat} {v : Int} : WsAt (w.setCell ⟨b, i, none⟩ (Value.int .u32 v)) b (ws.set i v) := by
  refine ⟨?_, by rw [List.length_set]; exact a.2⟩
  have := heapSet (o := i) (v := Value.int .u32 v) a.1
  rw [this, List.map_set]
  simp [u32V]
theorem getI_bd {l : List Int} (h : ∀ c ∈ l, 0 ≤ c ∧ c < 256) (i : Nat) : 0 ≤ getI l i ∧ getI l i < 256 := by
  unfold getI
  by_cases hi : i < l.length
  · rw [List.getD_eq_getElem?_getD, List.getElem?_eq_getElem hi]; exact h _ (List.getElem_mem hi)
  · rw [List.getD_eq_getElem?_getD, List.getElem?_eq_none (by omega)]; simp
theorem ktab_get {w : World} {kt : List Int} (a : KTab w kt) {i : Nat} (hi : i < 64) : w.cell? ⟨1, i, none⟩ = some (Value.int .u32 (getI kt i)) := by
  obtain ⟨⟨tt, fr, h⟩, l⟩ := a
  rw [cellOf h, List.getElem?_toArray, u32_get (by rw [l]; exact hi)]
/-- The rounds. -/
def mixV (x y u v : Int) : Int := IntKind.u32.wrap (u + IntKind.u32.wrap (IntKind.u32.wrap (bits BinOp.xor IntKind.u32 (bits BinOp.xor IntKind.u32 (rotR x 7) (rotR x 18)) (x.fdiv (2 ^ 3)) + v) + bits BinOp.xor IntKind.u32 (bits BinOp.xor IntKind.u32 (rotR y 17) (rotR y 19)) (y.fdiv (2 ^ 10))))
def mixS (ws : List Int) (t : Nat) : List Int := if 16 ≤ t then ws.set (t % 16) (mixV (getI ws ((t + 1) % 16)) (getI ws ((t + 14) % 16)) (getI ws (t % 16)) (getI ws ((t + 9) % 16))) else ws
structure Rs where
  a : Int
  b : Int
  c : Int
  d : Int
  e : Int
  f : Int
  g : Int
  i : Int
  ws : List Int
def oneV (k u e f g i : Int) : Int := IntKind.u32.wrap (IntKind.u32.wrap (IntKind.u32.wrap (IntKind.u32.wrap (i + bits BinOp.xor IntKind.u32 (bits BinOp.xor IntKind.u32 (rotR e 6) (rotR e 11)) (rotR e 25)) + bits BinOp.xor IntKind.u32 g (bits BinOp.and IntKind.u32 e (bits BinOp.xor IntKind.u32 f g))) + k) + u)
def twoV (a b c : Int) : Int := IntKind.u32.wrap (bits BinOp.xor IntKind.u32 (bits BinOp.xor IntKind.u32 (rotR a 2) (rotR a 13)) (rotR a 22) + bits BinOp.or IntKind.u32 (bits BinOp.and IntKind.u32 a (bits BinOp.or IntKind.u32 b c)) (bits BinOp.and IntKind.u32 b c))
def rdS (kt : List Int) (t : Nat) (s : Rs) : Rs :=
  ⟨IntKind.u32.wrap (oneV (getI kt t) (getI (mixS s.ws t) (t % 16)) s.e s.f s.g s.i + twoV s.a s.b s.c), s.a, s.b, s.c, IntKind.u32.wrap (s.d + oneV (getI kt t) (getI (mixS s.ws t) (t % 16)) s.e s.f s.g s.i), s.e, s.f, s.g, mixS s.ws t⟩
def rdF (kt : List Int) (s : Rs) : Nat → Rs
  | 0 => s
  | t + 1 => rdS kt t (rdF kt s t)
def rd0 (st ws : List Int) : Rs := ⟨getI st 0, getI st 1, getI st 2, getI st 3, getI st 4, getI st 5, getI st 6, getI st 7, ws⟩
theorem pick8 : ∀ (l : List Int) (k : Nat), k < l.length → one (tke 1 (drp k (l.map u32V))) = some (.int .u32 (getI l k))
  | [], k, h => absurd h (by simp)
  | x :: l, 0, _ => rfl
  | x :: l, k + 1, h => by
    have := pick8 l k (by simpa using h)
    rw [List.map_cons]
    exact this
theorem sha_set {w : World} {h : Nat} {st wt : List Int} {n : Int} (a : ShaAt w h st wt n) {k : Nat} {v : Int} (hk : k < 8) : ShaAt (w.setCell ⟨h, k, none⟩ (Value.int .u32 v)) h (st.set k v) wt n := by
  refine ⟨?_, by rw [List.length_set]; exact a.2.1, a.2.2⟩
  have := heapSet (o := k) (v := Value.int .u32 v) a.1
  rw [this, List.map_set, ← List.set_append_left _ _ (by rw [List.length_map, a.2.1]; exact hk)]
  simp [u32V]
def rsL (s : Rs) : List Int := [s.a, s.b, s.c, s.d, s.e, s.f, s.g, s.i]
def upS (st rs : List Int) : Nat → List Int
  | 0 => st
  | k + 1 => (upS st rs k).set k (IntKind.u32.wrap (getI (upS st rs k) k + getI rs k))
/-- What a block makes of the state. -/
def takF (kt st wt : List Int) : List Int := upS st (rsL (rdF kt (rd0 st (wdO wt 16)) 64)) 8
set_option maxHeartbeats 16000000 in
theorem take_cps (h : Nat) (st wt kt : List Int) (n : Int) (hb : ∀ c ∈ wt, 0 ≤ c ∧ c < 256) (w : World) (hS : ShaAt w h st wt n) (hK : KTab w kt) (R : Ending → World → Prop)
    (hR : ∀ w', ShaAt w' h (takF kt st wt) wt n → Mod [h] w w' → R (.returned (.tuple #[])) w') :
    Calls Try.prog 141 #[.pointer (some ⟨h, 0, none⟩)] w R := by
  refine calls_go 4000 okT Try.func141 rfl (rs := []) rfl Try.ntmps141 (args := [.pointer (some ⟨h, 0, none⟩)]) ?_
  simp (maxSteps := 1000000) (disch := first | omega | (simp only [sizeAlloc, sizeDrew, sizeSet, sizePut] <;> omega) | fail) only [GS, TT_eq, TTl, Nat.reduceAdd, Nat.reduceMul, Nat.reduceSub, Nat.reduceDiv, Nat.reduceMod, Nat.reducePow, Nat.reduceEqDiff, ↓reduceIte, reduceCtorEq, Int.reduceToNat, Int.reduceAdd, Int.reduceSub, Int.reduceMul]
  have hb1 : h < w.heap.size := ltOf hS.1
  have hw0 : WsAt (w.alloc (.cells (List.replicate 16 (Value.int .u32 0)).toArray 185)) w.heap.size (wdO wt 0) := ⟨by
    have := heapNew (w := w) (o := .cells (List.replicate 16 (Value.int .u32 0)).toArray 185)
    exact this, rfl⟩
  have hM0 := (Mod.refl [] w).alloc (.cells (List.replicate 16 (Value.int .u32 0)).toArray 185)
  simp only [List.replicate] at hw0 hM0
  refine hold_loop okT (rs := []) rfl [21] [3, 5, 22, 23, 24, 25, 26, 27, 28, 29, 30, 31, 32, 33, 34, 35, 36, 37, 38, 39, 40, 41, 42, 43, 44, 45, 46, 47, 48] (fun vs w' => ∃ (t : Nat), t ≤ 16 ∧ vs = [.int .i64 t] ∧ WsAt w' w.heap.size (wdO wt t) ∧ Mod [] w w') (fun vs _ => match vs with | [.int _ i] => 16 - i.toNat | _ => 0) (by kernel_rfl) ⟨0, by omega, rfl, hw0, hM0⟩ ?_
  clear hw0 hM0
  rintro vs w1 J ⟨t, ht, rfl, hw, hM⟩
  have hS1 := hS.mod0 hM
  by_cases hlt : t < 16
  · have e1 : (if (64 : Int) = 4 * (t : Int) then (⟨h, 8, none⟩ : Addr) else (⟨h, 8, none⟩ : Addr).add (4 * (t : Int)).toNat) = ⟨h, 8 + 4 * t, none⟩ := by
      rw [if_neg (by omega), show (4 * (t : Int)).toNat = 4 * t by omega]; simp [Addr.add]; try omega
    have e2 : (4 * (t : Int) + 4).toNat - (4 * (t : Int)).toNat = 4 := by omega
    simp (maxSteps := 1000000) (disch := first | omega | (simp only [sizeAlloc, sizeDrew, sizeSet, sizePut] <;> omega) | fail) only [GS, TT_eq, TTl, Nat.reduceAdd, Nat.reduceMul, Nat.reduceSub, Nat.reduceDiv, Nat.reduceMod, Nat.reducePow, Nat.reduceEqDiff, ↓reduceIte, reduceCtorEq, Int.reduceToNat, Int.reduceAdd, Int.reduceSub, Int.reduceMul, slArr, e1, e2]
    refine hold_loop okT (rs := []) rfl [34] [5, 35, 36, 37, 38, 39, 40, 41, 42, 43, 44, 45, 46, 47] (fun vs w' => ∃ (j : Nat), j ≤ 4 ∧ vs = [.int .i64 j] ∧ WsAt w' w.heap.size (wdI wt t j (wdO wt t)) ∧ Mod [] w w') (fun vs _ => match vs with | [.int _ i] => 4 - i.toNat | _ => 0) (by kernel_rfl) ⟨0, by omega, rfl, hw, hM⟩ ?_
    rintro vs w2 J2 ⟨j, hj, rfl, hw2, hM2⟩
    have hS2 := hS.mod0 hM2
    by_cases hlj : j < 4
    · have c1 := sha_wt hS2 (i := 4 * t + j) (by omega)
      have hc := getI_bd hb (4 * t + j)
      have c2 := ws_get hw2 hlt
      rw [show 8 + (4 * t + j) = 8 + 4 * t + j by omega] at c1
      have c3 : w2.frozen? ⟨w.heap.size, t, none⟩ = false := frozenOf hw2.1
      have c4 : capN .u32 8 = 8 := cap32 8 (by omega)
      simp (maxSteps := 1000000) (disch := first | omega | (simp only [sizeAlloc, sizeDrew, sizeSet, sizePut] <;> omega) | fail) only [GS, TT_eq, TTl, Nat.reduceAdd, Nat.reduceMul, Nat.reduceSub, Nat.reduceDiv, Nat.reduceMod, Nat.reducePow, Nat.reduceEqDiff, ↓reduceIte, reduceCtorEq, Int.reduceToNat, Int.reduceAdd, Int.reduceSub, Int.reduceMul, c1, c2, c3, c4]
      refine ⟨⟨j + 1, by omega, rfl, ws_set hw2, hM2.set (.inr (Nat.le_refl _)) _⟩, by omega⟩
    have ej : j = 4 := by omega
    subst ej
    simp (maxSteps := 1000000) (disch := first | omega | (simp only [sizeAlloc, sizeDrew, sizeSet, sizePut] <;> omega) | fail) only [GS, TT_eq, TTl, Nat.reduceAdd, Nat.reduceMul, Nat.reduceSub, Nat.reduceDiv, Nat.reduceMod, Nat.reducePow, Nat.reduceEqDiff, ↓reduceIte, reduceCtorEq, Int.reduceToNat, Int.reduceAdd, Int.reduceSub, Int.reduceMul]
    exact ⟨⟨t + 1, by omega, rfl, hw2, hM2⟩, by omega⟩
  have et : t = 16 := by omega
  subst et
  have hws : (wdO wt 16).length = 16 := wdO_len wt 16
  unfold takF at hR
  generalize wdO wt 16 = ws0 at *
  clear hlt ht
  have s0 := sha_st hS1 (i := 0) (by omega)
  have s1 := sha_st hS1 (i := 1) (by omega)
  have s2 := sha_st hS1 (i := 2) (by omega)
  have s3 := sha_st hS1 (i := 3) (by omega)
  have s4 := sha_st hS1 (i := 4) (by omega)
  have s5 := sha_st hS1 (i := 5) (by omega)
  have s6 := sha_st hS1 (i := 6) (by omega)
  have s7 := sha_st hS1 (i := 7) (by omega)
  simp (maxSteps := 1000000) (disch := first | omega | (simp only [sizeAlloc, sizeDrew, sizeSet, sizePut] <;> omega) | fail) only [GS, TT_eq, TTl, Nat.reduceAdd, Nat.reduceMul, Nat.reduceSub, Nat.reduceDiv, Nat.reduceMod, Nat.reducePow, Nat.reduceEqDiff, ↓reduceIte, reduceCtorEq, Int.reduceToNat, Int.reduceAdd, Int.reduceSub, Int.reduceMul, s0, s1, s2, s3, s4, s5, s6, s7]
  refine ⟨by kernel_rfl, fun m => ?_⟩
  have hD := (Mod.refl [] w1).drewN m
  have hw3 : WsAt (w1.drewN m) w.heap.size ws0 := ⟨hD.get hw.1 (by simp), hw.2⟩
  have hM3 := hM.trans hD (by simp)
  clear hw hM hS1 s0 s1 s2 s3 s4 s5 s6 s7 hD
  generalize w1.drewN m = w3 at *
  refine hold_loop okT (rs := []) rfl [6, 7, 8, 9, 10, 11, 12, 13, 89] [14, 15, 16, 17, 18, 90, 91, 92, 93, 94, 95, 96, 97, 98, 99, 100, 101, 102, 103, 104, 105, 106, 107, 108, 109, 110, 111, 112, 113, 114, 115, 116, 117, 118, 119, 120, 121, 122, 123, 124, 125, 126, 127, 128, 129, 130, 131, 132, 133, 134, 135, 136, 137, 138, 139, 140, 141, 142, 143, 144, 145, 146, 147, 148, 149, 150, 151, 152, 153, 154, 155, 156, 157, 158, 159, 160, 161, 162, 163, 164, 165, 166, 167, 168, 169, 170, 171, 172, 173, 174, 175, 176, 177, 178, 179, 180, 181, 182, 183, 184, 185, 186, 187, 188, 189, 190] (fun vs w' => ∃ (t : Nat) (a b c d e f g i : Int) (ws : List Int), t ≤ 64 ∧ vs = [.int .u32 a, .int .u32 b, .int .u32 c, .int .u32 d, .int .u32 e, .int .u32 f, .int .u32 g, .int .u32 i, .int .i64 t] ∧ rdF kt (rd0 st ws0) t = ⟨a, b, c, d, e, f, g, i, ws⟩ ∧ WsAt w' w.heap.size ws ∧ Mod [] w w') (fun vs _ => match vs with | [_, _, _, _, _, _, _, _, .int _ i] => 64 - i.toNat | _ => 0) (by kernel_rfl) ⟨0, _, _, _, _, _, _, _, _, _, by omega, rfl, rfl, hw3, hM3⟩ ?_
  rintro vs w4 J4 ⟨t, a, b, c, d, e, f, g, i, ws, ht, rfl, hr, hw, hM⟩
  have hS4 := hS.mod0 hM
  have e4 : (t : Int).tmod 16 = ((t % 16 : Nat) : Int) := (Int.ofNat_tmod t 16).symm
  by_cases hlt : t < 64
  · by_cases h16 : 16 ≤ t
--A
    · have e1 : ((t : Int) + 1).tmod 16 = (((t + 1) % 16 : Nat) : Int) := (Int.ofNat_tmod (t + 1) 16).symm
      have e2 : ((t : Int) + 14).tmod 16 = (((t + 14) % 16 : Nat) : Int) := (Int.ofNat_tmod (t + 14) 16).symm
      have e3 : ((t : Int) + 9).tmod 16 = (((t + 9) % 16 : Nat) : Int) := (Int.ofNat_tmod (t + 9) 16).symm
      have l1 := ws_get hw (i := (t + 1) % 16) (by omega)
      have l2 := ws_get hw (i := (t + 14) % 16) (by omega)
      have hmx : mixS ws t = ws.set (t % 16) (mixV (getI ws ((t + 1) % 16)) (getI ws ((t + 14) % 16)) (getI ws (t % 16)) (getI ws ((t + 9) % 16))) := by unfold mixS; rw [if_pos h16]
      simp (maxSteps := 1000000) (disch := first | omega | (simp only [sizeAlloc, sizeDrew, sizeSet, sizePut] <;> omega) | fail) only [GS, TT_eq, TTl, Nat.reduceAdd, Nat.reduceMul, Nat.reduceSub, Nat.reduceDiv, Nat.reduceMod, Nat.reducePow, Nat.reduceEqDiff, ↓reduceIte, reduceCtorEq, Int.reduceToNat, Int.reduceAdd, Int.reduceSub, Int.reduceMul, e1, e2, l1, l2, Int.toNat_natCast]
      refine ⟨by kernel_rfl, fun m => ?_⟩
      have hD := (Mod.refl [] w4).drewN m
      have hw5 : WsAt (w4.drewN m) w.heap.size ws := ⟨hD.get hw.1 (by simp), hw.2⟩
      have hM5 := hM.trans hD (by simp)
      clear hw hM hS4 l1 l2 hD
      generalize w4.drewN m = w5 at *
      generalize getI ws ((t + 1) % 16) = x at *
      generalize getI ws ((t + 14) % 16) = y at *
      refine hold_draw okT (rs := []) rfl [0, 1, 3, 7, 0, 16, 0, 112, 240, 0, 512, 2032, 0, 4096, 12288, 28672, 61440, 131056, 0, 262384, 0, 1835248, 3932400, 0, 8388608, 33292528, 67108848, 134217727, 268435455, 536870911] [0, 1, 2, 3, 4, 6, 9, 10, 12, 13, 14, 15, 16, 18, 20, 23, 24, 5, 7, 8, 11, 17, 19, 21, 22, 25, 26, 27, 28, 29] (by kernel_rfl) (by kernel_rfl) ?_
      have hD := (Mod.refl [] w5).drewN 1
      replace hw5 : WsAt (w5.drewN 1) w.heap.size ws := ⟨hD.get hw5.1 (by simp), hw5.2⟩
      replace hM5 := hM5.trans hD (by simp)
      clear hD
      generalize w5.drewN 1 = w6 at *
      have l3 := ws_get hw5 (i := (t + 9) % 16) (by omega)
      have l4 := ws_get hw5 (i := t % 16) (by omega)
      simp (maxSteps := 1000000) (disch := first | omega | (simp only [sizeAlloc, sizeDrew, sizeSet, sizePut] <;> omega) | fail) only [GS, TT_eq, TTl, Nat.reduceAdd, Nat.reduceMul, Nat.reduceSub, Nat.reduceDiv, Nat.reduceMod, Nat.reducePow, Nat.reduceEqDiff, ↓reduceIte, reduceCtorEq, Int.reduceToNat, Int.reduceAdd, Int.reduceSub, Int.reduceMul, e3, e4, l3, l4, Int.toNat_natCast]
      refine ⟨fok148, right_cps x 7 (by omega) (by omega) _ _ (.inl ⟨_, rfl, ⟨l3, l4⟩, hold_dops okT (rs := []) rfl ?_⟩)⟩
      simp (maxSteps := 1000000) (disch := first | omega | (simp only [sizeAlloc, sizeDrew, sizeSet, sizePut] <;> omega) | fail) only [GS, TT_eq, TTl, Nat.reduceAdd, Nat.reduceMul, Nat.reduceSub, Nat.reduceDiv, Nat.reduceMod, Nat.reducePow, Nat.reduceEqDiff, ↓reduceIte, reduceCtorEq, Int.reduceToNat, Int.reduceAdd, Int.reduceSub, Int.reduceMul]
      refine ⟨fok148, right_cps x 18 (by omega) (by omega) _ _ (.inl ⟨_, rfl, ⟨l3, l4⟩, hold_dops okT (rs := []) rfl ?_⟩)⟩
      simp (maxSteps := 1000000) (disch := first | omega | (simp only [sizeAlloc, sizeDrew, sizeSet, sizePut] <;> omega) | fail) only [GS, TT_eq, TTl, Nat.reduceAdd, Nat.reduceMul, Nat.reduceSub, Nat.reduceDiv, Nat.reduceMod, Nat.reducePow, Nat.reduceEqDiff, ↓reduceIte, reduceCtorEq, Int.reduceToNat, Int.reduceAdd, Int.reduceSub, Int.reduceMul]
      refine ⟨fok148, right_cps y 17 (by omega) (by omega) _ _ (.inl ⟨_, rfl, ⟨l3, l4⟩, hold_dops okT (rs := []) rfl ?_⟩)⟩
      simp (maxSteps := 1000000) (disch := first | omega | (simp only [sizeAlloc, sizeDrew, sizeSet, sizePut] <;> omega) | fail) only [GS, TT_eq, TTl, Nat.reduceAdd, Nat.reduceMul, Nat.reduceSub, Nat.reduceDiv, Nat.reduceMod, Nat.reducePow, Nat.reduceEqDiff, ↓reduceIte, reduceCtorEq, Int.reduceToNat, Int.reduceAdd, Int.reduceSub, Int.reduceMul]
      refine ⟨fok148, right_cps y 19 (by omega) (by omega) _ _ (.inl ⟨_, rfl, ⟨l3, l4⟩, hold_dops okT (rs := []) rfl ?_⟩)⟩
      have f4 : w6.frozen? ⟨w.heap.size, t % 16, none⟩ = false := frozenOf hw5.1
      have cp3 := cap32 3 (by omega)
      have cp10 := cap32 10 (by omega)
      simp (maxSteps := 1000000) (disch := first | omega | (simp only [sizeAlloc, sizeDrew, sizeSet, sizePut] <;> omega) | fail) only [GS, TT_eq, TTl, Nat.reduceAdd, Nat.reduceMul, Nat.reduceSub, Nat.reduceDiv, Nat.reduceMod, Nat.reducePow, Nat.reduceEqDiff, ↓reduceIte, reduceCtorEq, Int.reduceToNat, Int.reduceAdd, Int.reduceSub, Int.reduceMul, cp3, cp10, f4, l4]
      have hw7 : WsAt (w6.setCell ⟨w.heap.size, t % 16, none⟩ (.int .u32 (mixV x y (getI ws (t % 16)) (getI ws ((t + 9) % 16))))) w.heap.size (mixS ws t) := by rw [hmx]; exact ws_set hw5
      have hM7 : Mod [] w (w6.setCell ⟨w.heap.size, t % 16, none⟩ (.int .u32 (mixV x y (getI ws (t % 16)) (getI ws ((t + 9) % 16))))) := hM5.set (.inr (Nat.le_refl _)) _
      unfold mixV at hw7 hM7
      generalize hws' : mixS ws t = ws' at *
      clear l3 l4 f4 hw5 hM5
      generalize w6.setCell _ _ = w7 at *
      have k7 := ktab_get (hK.mod hM7 (by simp)) hlt
      have l7 := ws_get hw7 (i := t % 16) (by omega)
      refine hold_draw okT (rs := []) rfl [0, 0, 2, 0, 14, 30, 0, 94, 254, 511, 0, 0, 0, 0, 12288, 30720, 64512, 131071, 0, 262144, 786432, 2097151, 0, 4194304, 12582912, 29360128, 67108863, 134217727] [0, 1, 3, 6, 10, 11, 12, 13, 14, 15, 16, 18, 19, 20, 22, 23, 24, 25, 2, 4, 5, 7, 8, 9, 17, 21, 26, 27] (by kernel_rfl) (by kernel_rfl) ?_
      have hD := (Mod.refl [] w7).drewN 1
      replace hw7 : WsAt (w7.drewN 1) w.heap.size ws' := ⟨hD.get hw7.1 (by simp), hw7.2⟩
      replace hM7 := hM7.trans hD (by simp)
      replace k7 : (w7.drewN 1).cell? ⟨1, t, none⟩ = some (.int .u32 (getI kt t)) := ktab_get (hK.mod hM7 (by simp)) hlt
      replace l7 := ws_get hw7 (i := t % 16) (by omega)
      clear hD
      generalize w7.drewN 1 = w8 at *
      simp (maxSteps := 1000000) (disch := first | omega | (simp only [sizeAlloc, sizeDrew, sizeSet, sizePut] <;> omega) | fail) only [GS, TT_eq, TTl, Nat.reduceAdd, Nat.reduceMul, Nat.reduceSub, Nat.reduceDiv, Nat.reduceMod, Nat.reducePow, Nat.reduceEqDiff, ↓reduceIte, reduceCtorEq, Int.reduceToNat, Int.reduceAdd, Int.reduceSub, Int.reduceMul, e4, k7, l7, Int.toNat_natCast]
      refine ⟨fok148, right_cps e 6 (by omega) (by omega) _ _ (.inl ⟨_, rfl, ⟨l7, k7⟩, hold_dops okT (rs := []) rfl ?_⟩)⟩
      simp (maxSteps := 1000000) (disch := first | omega | (simp only [sizeAlloc, sizeDrew, sizeSet, sizePut] <;> omega) | fail) only [GS, TT_eq, TTl, Nat.reduceAdd, Nat.reduceMul, Nat.reduceSub, Nat.reduceDiv, Nat.reduceMod, Nat.reducePow, Nat.reduceEqDiff, ↓reduceIte, reduceCtorEq, Int.reduceToNat, Int.reduceAdd, Int.reduceSub, Int.reduceMul]
      refine ⟨fok148, right_cps e 11 (by omega) (by omega) _ _ (.inl ⟨_, rfl, ⟨l7, k7⟩, hold_dops okT (rs := []) rfl ?_⟩)⟩
      simp (maxSteps := 1000000) (disch := first | omega | (simp only [sizeAlloc, sizeDrew, sizeSet, sizePut] <;> omega) | fail) only [GS, TT_eq, TTl, Nat.reduceAdd, Nat.reduceMul, Nat.reduceSub, Nat.reduceDiv, Nat.reduceMod, Nat.reducePow, Nat.reduceEqDiff, ↓reduceIte, reduceCtorEq, Int.reduceToNat, Int.reduceAdd, Int.reduceSub, Int.reduceMul]
      refine ⟨fok148, right_cps e 25 (by omega) (by omega) _ _ (.inl ⟨_, rfl, ⟨l7, k7⟩, hold_dops okT (rs := []) rfl ?_⟩)⟩
      simp (maxSteps := 1000000) (disch := first | omega | (simp only [sizeAlloc, sizeDrew, sizeSet, sizePut] <;> omega) | fail) only [GS, TT_eq, TTl, Nat.reduceAdd, Nat.reduceMul, Nat.reduceSub, Nat.reduceDiv, Nat.reduceMod, Nat.reducePow, Nat.reduceEqDiff, ↓reduceIte, reduceCtorEq, Int.reduceToNat, Int.reduceAdd, Int.reduceSub, Int.reduceMul]
      refine ⟨fok148, right_cps a 2 (by omega) (by omega) _ _ (.inl ⟨_, rfl, hold_ops okT (rs := []) rfl ?_⟩)⟩
      simp (maxSteps := 1000000) (disch := first | omega | (simp only [sizeAlloc, sizeDrew, sizeSet, sizePut] <;> omega) | fail) only [GS, TT_eq, TTl, Nat.reduceAdd, Nat.reduceMul, Nat.reduceSub, Nat.reduceDiv, Nat.reduceMod, Nat.reducePow, Nat.reduceEqDiff, ↓reduceIte, reduceCtorEq, Int.reduceToNat, Int.reduceAdd, Int.reduceSub, Int.reduceMul]
      refine ⟨fok148, right_cps a 13 (by omega) (by omega) _ _ (.inl ⟨_, rfl, hold_ops okT (rs := []) rfl ?_⟩)⟩
      simp (maxSteps := 1000000) (disch := first | omega | (simp only [sizeAlloc, sizeDrew, sizeSet, sizePut] <;> omega) | fail) only [GS, TT_eq, TTl, Nat.reduceAdd, Nat.reduceMul, Nat.reduceSub, Nat.reduceDiv, Nat.reduceMod, Nat.reducePow, Nat.reduceEqDiff, ↓reduceIte, reduceCtorEq, Int.reduceToNat, Int.reduceAdd, Int.reduceSub, Int.reduceMul]
      refine ⟨fok148, right_cps a 22 (by omega) (by omega) _ _ (.inl ⟨_, rfl, hold_ops okT (rs := []) rfl ?_⟩)⟩
      simp (maxSteps := 1000000) (disch := first | omega | (simp only [sizeAlloc, sizeDrew, sizeSet, sizePut] <;> omega) | fail) only [GS, TT_eq, TTl, Nat.reduceAdd, Nat.reduceMul, Nat.reduceSub, Nat.reduceDiv, Nat.reduceMod, Nat.reducePow, Nat.reduceEqDiff, ↓reduceIte, reduceCtorEq, Int.reduceToNat, Int.reduceAdd, Int.reduceSub, Int.reduceMul]
      refine ⟨⟨t + 1, _, _, _, _, _, _, _, _, ws', by omega, rfl, ?_, hw7, hM7⟩, by omega⟩
      rw [rdF, hr]
      unfold rdS
      rw [hws']
      rfl
    · have hw7 := hw
      have hM7 := hM
      have hmx : mixS ws t = ws := by unfold mixS; rw [if_neg h16]
      rw [← hmx] at hw7
      clear hw hM hS4
      generalize hws' : mixS ws t = ws' at *
      generalize w4 = w7 at *
      simp (maxSteps := 1000000) (disch := first | omega | (simp only [sizeAlloc, sizeDrew, sizeSet, sizePut] <;> omega) | fail) only [GS, TT_eq, TTl, Nat.reduceAdd, Nat.reduceMul, Nat.reduceSub, Nat.reduceDiv, Nat.reduceMod, Nat.reducePow, Nat.reduceEqDiff, ↓reduceIte, reduceCtorEq, Int.reduceToNat, Int.reduceAdd, Int.reduceSub, Int.reduceMul]
      have k7 := ktab_get (hK.mod hM7 (by simp)) hlt
      have l7 := ws_get hw7 (i := t % 16) (by omega)
      refine hold_draw okT (rs := []) rfl [0, 0, 2, 0, 14, 30, 0, 94, 254, 511, 0, 0, 0, 0, 12288, 30720, 64512, 131071, 0, 262144, 786432, 2097151, 0, 4194304, 12582912, 29360128, 67108863, 134217727] [0, 1, 3, 6, 10, 11, 12, 13, 14, 15, 16, 18, 19, 20, 22, 23, 24, 25, 2, 4, 5, 7, 8, 9, 17, 21, 26, 27] (by kernel_rfl) (by kernel_rfl) ?_
      have hD := (Mod.refl [] w7).drewN 1
      replace hw7 : WsAt (w7.drewN 1) w.heap.size ws' := ⟨hD.get hw7.1 (by simp), hw7.2⟩
      replace hM7 := hM7.trans hD (by simp)
      replace k7 : (w7.drewN 1).cell? ⟨1, t, none⟩ = some (.int .u32 (getI kt t)) := ktab_get (hK.mod hM7 (by simp)) hlt
      replace l7 := ws_get hw7 (i := t % 16) (by omega)
      clear hD
      generalize w7.drewN 1 = w8 at *
      simp (maxSteps := 1000000) (disch := first | omega | (simp only [sizeAlloc, sizeDrew, sizeSet, sizePut] <;> omega) | fail) only [GS, TT_eq, TTl, Nat.reduceAdd, Nat.reduceMul, Nat.reduceSub, Nat.reduceDiv, Nat.reduceMod, Nat.reducePow, Nat.reduceEqDiff, ↓reduceIte, reduceCtorEq, Int.reduceToNat, Int.reduceAdd, Int.reduceSub, Int.reduceMul, e4, k7, l7, Int.toNat_natCast]
      refine ⟨fok148, right_cps e 6 (by omega) (by omega) _ _ (.inl ⟨_, rfl, ⟨l7, k7⟩, hold_dops okT (rs := []) rfl ?_⟩)⟩
      simp (maxSteps := 1000000) (disch := first | omega | (simp only [sizeAlloc, sizeDrew, sizeSet, sizePut] <;> omega) | fail) only [GS, TT_eq, TTl, Nat.reduceAdd, Nat.reduceMul, Nat.reduceSub, Nat.reduceDiv, Nat.reduceMod, Nat.reducePow, Nat.reduceEqDiff, ↓reduceIte, reduceCtorEq, Int.reduceToNat, Int.reduceAdd, Int.reduceSub, Int.reduceMul]
      refine ⟨fok148, right_cps e 11 (by omega) (by omega) _ _ (.inl ⟨_, rfl, ⟨l7, k7⟩, hold_dops okT (rs := []) rfl ?_⟩)⟩
      simp (maxSteps := 1000000) (disch := first | omega | (simp only [sizeAlloc, sizeDrew, sizeSet, sizePut] <;> omega) | fail) only [GS, TT_eq, TTl, Nat.reduceAdd, Nat.reduceMul, Nat.reduceSub, Nat.reduceDiv, Nat.reduceMod, Nat.reducePow, Nat.reduceEqDiff, ↓reduceIte, reduceCtorEq, Int.reduceToNat, Int.reduceAdd, Int.reduceSub, Int.reduceMul]
      refine ⟨fok148, right_cps e 25 (by omega) (by omega) _ _ (.inl ⟨_, rfl, ⟨l7, k7⟩, hold_dops okT (rs := []) rfl ?_⟩)⟩
      simp (maxSteps := 1000000) (disch := first | omega | (simp only [sizeAlloc, sizeDrew, sizeSet, sizePut] <;> omega) | fail) only [GS, TT_eq, TTl, Nat.reduceAdd, Nat.reduceMul, Nat.reduceSub, Nat.reduceDiv, Nat.reduceMod, Nat.reducePow, Nat.reduceEqDiff, ↓reduceIte, reduceCtorEq, Int.reduceToNat, Int.reduceAdd, Int.reduceSub, Int.reduceMul]
      refine ⟨fok148, right_cps a 2 (by omega) (by omega) _ _ (.inl ⟨_, rfl, hold_ops okT (rs := []) rfl ?_⟩)⟩
      simp (maxSteps := 1000000) (disch := first | omega | (simp only [sizeAlloc, sizeDrew, sizeSet, sizePut] <;> omega) | fail) only [GS, TT_eq, TTl, Nat.reduceAdd, Nat.reduceMul, Nat.reduceSub, Nat.reduceDiv, Nat.reduceMod, Nat.reducePow, Nat.reduceEqDiff, ↓reduceIte, reduceCtorEq, Int.reduceToNat, Int.reduceAdd, Int.reduceSub, Int.reduceMul]
      refine ⟨fok148, right_cps a 13 (by omega) (by omega) _ _ (.inl ⟨_, rfl, hold_ops okT (rs := []) rfl ?_⟩)⟩
      simp (maxSteps := 1000000) (disch := first | omega | (simp only [sizeAlloc, sizeDrew, sizeSet, sizePut] <;> omega) | fail) only [GS, TT_eq, TTl, Nat.reduceAdd, Nat.reduceMul, Nat.reduceSub, Nat.reduceDiv, Nat.reduceMod, Nat.reducePow, Nat.reduceEqDiff, ↓reduceIte, reduceCtorEq, Int.reduceToNat, Int.reduceAdd, Int.reduceSub, Int.reduceMul]
      refine ⟨fok148, right_cps a 22 (by omega) (by omega) _ _ (.inl ⟨_, rfl, hold_ops okT (rs := []) rfl ?_⟩)⟩
      simp (maxSteps := 1000000) (disch := first | omega | (simp only [sizeAlloc, sizeDrew, sizeSet, sizePut] <;> omega) | fail) only [GS, TT_eq, TTl, Nat.reduceAdd, Nat.reduceMul, Nat.reduceSub, Nat.reduceDiv, Nat.reduceMod, Nat.reducePow, Nat.reduceEqDiff, ↓reduceIte, reduceCtorEq, Int.reduceToNat, Int.reduceAdd, Int.reduceSub, Int.reduceMul]
      refine ⟨⟨t + 1, _, _, _, _, _, _, _, _, ws', by omega, rfl, ?_, hw7, hM7⟩, by omega⟩
      rw [rdF, hr]
      unfold rdS
      rw [hws']
      rfl
  have et : t = 64 := by omega
  subst et
  clear hlt ht
  have hS4 := hS.mod0 hM
  have hr' : rsL (rdF kt (rd0 st ws0) 64) = [a, b, c, d, e, f, g, i] := by rw [hr]; rfl
  simp (maxSteps := 1000000) (disch := first | omega | (simp only [sizeAlloc, sizeDrew, sizeSet, sizePut] <;> omega) | fail) only [GS, TT_eq, TTl, Nat.reduceAdd, Nat.reduceMul, Nat.reduceSub, Nat.reduceDiv, Nat.reduceMod, Nat.reducePow, Nat.reduceEqDiff, ↓reduceIte, reduceCtorEq, Int.reduceToNat, Int.reduceAdd, Int.reduceSub, Int.reduceMul]
  refine hold_loop okT (rs := []) rfl [200] [19, 20, 201, 202, 203, 204, 205, 206, 207, 208, 209, 210, 211, 212, 213, 214, 215] (fun vs w' => ∃ (k : Nat), k ≤ 8 ∧ vs = [.int .i64 k] ∧ ShaAt w' h (upS st [a, b, c, d, e, f, g, i] k) wt n ∧ Mod [h] w w') (fun vs _ => match vs with | [.int _ i] => 8 - i.toNat | _ => 0) (by kernel_rfl) ⟨0, by omega, rfl, hS4, hM.mono (by simp)⟩ ?_
  clear hw hM hS4 hr
  rintro vs w5 J5 ⟨k, hk, rfl, hS5, hM5⟩
  by_cases hlt : k < 8
  · have c1 := sha_st hS5 hlt
    have c2 : w5.frozen? ⟨h, k, none⟩ = false := frozenOf hS5.1
    have e5 : one (tke 1 (drp k [Value.int .u32 a, Value.int .u32 b, Value.int .u32 c, Value.int .u32 d, Value.int .u32 e, Value.int .u32 f, Value.int .u32 g, Value.int .u32 i])) = some (.int .u32 (getI [a, b, c, d, e, f, g, i] k)) := pick8 [a, b, c, d, e, f, g, i] k hlt
    have e6 : ∀ v, chkO (0 ≤ (k : Int) ∧ (k : Int) < 8) v = v := fun v => chkO_pos ⟨by omega, by omega⟩
    simp (maxSteps := 1000000) (disch := first | omega | (simp only [sizeAlloc, sizeDrew, sizeSet, sizePut] <;> omega) | fail) only [GS, TT_eq, TTl, Nat.reduceAdd, Nat.reduceMul, Nat.reduceSub, Nat.reduceDiv, Nat.reduceMod, Nat.reducePow, Nat.reduceEqDiff, ↓reduceIte, reduceCtorEq, Int.reduceToNat, Int.reduceAdd, Int.reduceSub, Int.reduceMul, e5, e6]
    refine hold_draw okT (rs := []) rfl [0, 0, 1, 5, 15, 31, 0, 127, 1, 257, 1023, 2047] [0, 1, 2, 3, 4, 5, 6, 7, 8, 9, 10, 11] (by kernel_rfl) (by kernel_rfl) ?_
    have hD := (Mod.refl [] w5).drewN 1
    replace hS5 := hS5.mod0 hD
    replace hM5 := hM5.trans (hD.mono (S' := [h]) (by simp)) (by simp)
    replace c1 := sha_st hS5 hlt
    replace c2 : (w5.drewN 1).frozen? ⟨h, k, none⟩ = false := frozenOf hS5.1
    clear hD
    generalize w5.drewN 1 = w6 at *
    simp (maxSteps := 1000000) (disch := first | omega | (simp only [sizeAlloc, sizeDrew, sizeSet, sizePut] <;> omega) | fail) only [GS, TT_eq, TTl, Nat.reduceAdd, Nat.reduceMul, Nat.reduceSub, Nat.reduceDiv, Nat.reduceMod, Nat.reducePow, Nat.reduceEqDiff, ↓reduceIte, reduceCtorEq, Int.reduceToNat, Int.reduceAdd, Int.reduceSub, Int.reduceMul, c1, c2]
    exact ⟨⟨k + 1, by omega, rfl, sha_set hS5 hlt, hM5.set (.inl (by simp)) _⟩, by omega⟩
  have ek : k = 8 := by omega
  subst ek
  simp (maxSteps := 1000000) (disch := first | omega | (simp only [sizeAlloc, sizeDrew, sizeSet, sizePut] <;> omega) | fail) only [GS, TT_eq, TTl, Nat.reduceAdd, Nat.reduceMul, Nat.reduceSub, Nat.reduceDiv, Nat.reduceMod, Nat.reducePow, Nat.reduceEqDiff, ↓reduceIte, reduceCtorEq, Int.reduceToNat, Int.reduceAdd, Int.reduceSub, Int.reduceMul]
  exact hR w5 (by rw [hr']; exact hS5) hM5
end Go.Proofs.Ytoladcdelaemoaa
