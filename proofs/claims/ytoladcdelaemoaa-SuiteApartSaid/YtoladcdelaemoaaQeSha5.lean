/-
  sha: Sum (walk).
-/
import Derived.Test.YtoladcdelaemoaaQeSha4
set_option linter.unusedSimpArgs false
set_option linter.unusedVariables false
set_option maxRecDepth 20000
namespace Go.Proofs.Ytoladcdelaemoaa
open Go Go.Wk Go.RowKit
attribute [local irreducible] go Hold
def byF (x : Int) : UInt8 := UInt8.ofNat (x % 256).toNat
theorem byF_eq (x : Int) : IntKind.u8.wrap x = ((byF x).toNat : Int) := by
  have h1 : IntKind.u8.wrap x = x % 256 := rfl
  have h2 : (byF x).toNat = (x % 256).toNat % 256 := by unfold byF; rfl
  rw [h1, h2]
  omega
def zerN (n : Nat) : Nat := (119 - n % 64) % 64
def lenB (n k : Nat) : UInt8 := byF (((n * 8 : Nat) : Int).fdiv (2 ^ (56 - 8 * k)))
/-- What is written behind all. -/
def padF (n : Nat) : List UInt8 := 128 :: (List.replicate (zerN n) 0 ++ (List.range 8).map (lenB n))
def outF (st : List Int) : List UInt8 := st.flatMap fun v => [byF (v.fdiv (2 ^ 24)), byF (v.fdiv (2 ^ 16)), byF (v.fdiv (2 ^ 8)), byF v]
def sumF (kt st wt : List Int) (n : Nat) : List UInt8 := outF (putF kt st wt n (padF n)).1
theorem outF_len : ∀ st : List Int, (outF st).length = 4 * st.length
  | [] => rfl
  | v :: st => by
    have := outF_len st
    unfold outF at this ⊢
    rw [List.flatMap_cons, List.length_append, this, List.length_cons]
    simp only [List.length_cons, List.length_nil]
    omega
theorem row_load {w : World} {b e n : Nat} {v : Value} {xs : List Value} (h : w.ownsRow b e 1 v n xs) (hn : 0 < n) : ∃ A cap, v = .slice (some ⟨A, 0, none⟩) n cap ∧ loadL w ⟨A, 0, none⟩ 0 n = some xs := by
  obtain ⟨h1, h2⟩ := h
  rcases h2 with ⟨_, h2⟩ | ⟨g, cap, cur, rfl, _, hg, hc, _, hs, ht⟩
  · omega
  refine ⟨g, cap, rfl, ?_⟩
  rw [Nat.mul_one] at ht h1
  have := loadL_all (w := w) (b := g) (l := xs) (fun j hj => by
    rw [cellOf hg, ← ht, List.getElem?_take_of_lt (by omega)]
    simp) n 0 (by omega)
  simpa using this
theorem list8 {l : List Int} (h : l.length = 8) : ∃ a b c d e f g i, l = [a, b, c, d, e, f, g, i] := by
  match l, h with
  | [a, b, c, d, e, f, g, i], _ => exact ⟨a, b, c, d, e, f, g, i, rfl⟩
theorem outF_app (l m : List Int) : outF (l ++ m) = outF l ++ outF m := by unfold outF; exact List.flatMap_append
set_option maxHeartbeats 8000000 in
theorem shaSum_cps (h : Nat) (st wt kt : List Int) (n : Nat) (hb : WB wt) (hn : n ≤ 1152921504606846976) (w : World) (hS : ShaAt w h st wt (n : Nat)) (hK : KTab w kt) (R : Ending → World → Prop)
    (hR : ∀ w', Mod [] w w' → R (.returned (.string ⟨(sumF kt st wt n).toArray⟩)) w') :
    Calls Try.prog 135 #[.pointer (some ⟨h, 0, none⟩)] w R := by
  refine calls_go 4000 okT Try.func135 rfl (rs := [.tmp 2]) rfl Try.ntmps135 (args := [.pointer (some ⟨h, 0, none⟩)]) ?_
  simp (maxSteps := 1000000) (disch := first | omega | (simp only [sizeAlloc, sizeDrew, sizeSet, sizePut] <;> omega) | fail) only [GS, TT_eq, TTl, Nat.reduceAdd, Nat.reduceMul, Nat.reduceSub, Nat.reduceDiv, Nat.reduceMod, Nat.reducePow, Nat.reduceEqDiff, ↓reduceIte, reduceCtorEq, Int.reduceToNat, Int.reduceAdd, Int.reduceSub, Int.reduceMul]
  refine ⟨fok142, shaCopy_cps h st wt _ w hS _ fun c w1 hC1 hc hM1 => .inl ⟨_, rfl, hold_ops okT (rs := [.tmp 2]) rfl ?_⟩⟩
  simp (maxSteps := 1000000) (disch := first | omega | (simp only [sizeAlloc, sizeDrew, sizeSet, sizePut] <;> omega) | fail) only [GS, TT_eq, TTl, Nat.reduceAdd, Nat.reduceMul, Nat.reduceSub, Nat.reduceDiv, Nat.reduceMod, Nat.reducePow, Nat.reduceEqDiff, ↓reduceIte, reduceCtorEq, Int.reduceToNat, Int.reduceAdd, Int.reduceSub, Int.reduceMul]
  refine ⟨fok134, shaWrite_cps c st wt kt n [128] hb (by simp; omega) w1 hC1 (hK.mod hM1 (by simp)) _ fun w2 hC2 hB2 hM2 => .inl ⟨_, rfl, hold_ops okT (rs := [.tmp 2]) rfl ?_⟩⟩
  have hM02 : Mod [] w w2 := hM1.trans hM2 (by intro y hy; simp only [List.mem_singleton] at hy; subst hy; exact .inr hc)
  simp (maxSteps := 1000000) (disch := first | omega | (simp only [sizeAlloc, sizeDrew, sizeSet, sizePut] <;> omega) | fail) only [GS, TT_eq, TTl, Nat.reduceAdd, Nat.reduceMul, Nat.reduceSub, Nat.reduceDiv, Nat.reduceMod, Nat.reducePow, Nat.reduceEqDiff, ↓reduceIte, reduceCtorEq, Int.reduceToNat, Int.reduceAdd, Int.reduceSub, Int.reduceMul]
  refine hold_loop okT (rs := [.tmp 2]) rfl [] [15, 16, 17, 18, 19, 20, 21, 22] (fun vs w' => ∃ (j : Nat), j ≤ zerN n ∧ vs = [] ∧ ShaAt w' c (putF kt st wt n (128 :: List.replicate j 0)).1 (putF kt st wt n (128 :: List.replicate j 0)).2 ((n + 1 + j : Nat) : Int) ∧ WB (putF kt st wt n (128 :: List.replicate j 0)).2 ∧ Mod [] w w') (fun _ w' => match w'.cell? ⟨c, 72, none⟩ with | some (.int _ m) => n + 65 - m.toNat | _ => 0) (by kernel_rfl) ⟨0, by omega, rfl, hC2, hB2, hM02⟩ ?_
  clear hC2 hB2 hM02 hM2 hM1 hC1
  rintro vs w3 J ⟨j, hj, rfl, hC3, hB3, hM3⟩
  have cn := sha_n hC3
  have hz : zerN n = (119 - n % 64) % 64 := rfl
  have et : ((n + 1 + j : Nat) : Int).tmod 64 = (((n + 1 + j) % 64 : Nat) : Int) := (Int.ofNat_tmod _ 64).symm
  by_cases hlt : j < zerN n
  · have hne : ¬ (((n + 1 + j) % 64 : Nat) : Int) = 56 := by omega
    simp (maxSteps := 1000000) (disch := first | omega | (simp only [sizeAlloc, sizeDrew, sizeSet, sizePut] <;> omega) | fail) only [GS, TT_eq, TTl, Nat.reduceAdd, Nat.reduceMul, Nat.reduceSub, Nat.reduceDiv, Nat.reduceMod, Nat.reducePow, Nat.reduceEqDiff, ↓reduceIte, reduceCtorEq, Int.reduceToNat, Int.reduceAdd, Int.reduceSub, Int.reduceMul, cn, et, hne]
    refine ⟨fok134, shaWrite_cps c _ _ kt (n + 1 + j) [0] hB3 (by simp; omega) w3 hC3 (hK.mod hM3 (by simp)) _ fun w4 hC4 hB4 hM4 => .inl ⟨_, rfl, hold_ops okT (rs := [.tmp 2]) rfl ?_⟩⟩
    have hp := putF_app kt (128 :: List.replicate j 0) [0] st wt n
    rw [show (128 :: List.replicate j (0 : UInt8)) ++ [0] = 128 :: List.replicate (j + 1) 0 by rw [List.replicate_succ']; rfl, show n + (128 :: List.replicate j (0 : UInt8)).length = n + 1 + j by simp; omega] at hp
    rw [← hp] at hC4 hB4
    have cn4 := sha_n hC4
    simp (maxSteps := 1000000) (disch := first | omega | (simp only [sizeAlloc, sizeDrew, sizeSet, sizePut] <;> omega) | fail) only [GS, TT_eq, TTl, Nat.reduceAdd, Nat.reduceMul, Nat.reduceSub, Nat.reduceDiv, Nat.reduceMod, Nat.reducePow, Nat.reduceEqDiff, ↓reduceIte, reduceCtorEq, Int.reduceToNat, Int.reduceAdd, Int.reduceSub, Int.reduceMul]
    refine ⟨⟨j + 1, by omega, by rw [← Nat.add_assoc]; exact hC4, hB4, hM3.trans hM4 (by intro y hy; simp only [List.mem_singleton] at hy; subst hy; exact .inr hc)⟩, ?_⟩
    rw [cn4]
    simp
    omega
  have ej : j = zerN n := by omega
  subst ej
  have he : (((n + 1 + zerN n) % 64 : Nat) : Int) = 56 := by omega
  have cn0 := sha_n (hS.mod0 hM3)
  have cp3 : capN .u64 3 = 3 := by simp [capN, IntKind.bits]
  have e8 : IntKind.u64.wrap ((n : Int) * 2 ^ 3) = ((n * 8 : Nat) : Int) := by
    rw [show ((n : Int) * 2 ^ 3) = ((n * 8 : Nat) : Int) by omega]
    show ((n * 8 : Nat) : Int) % 18446744073709551616 = _
    omega
  simp (maxSteps := 1000000) (disch := first | omega | (simp only [sizeAlloc, sizeDrew, sizeSet, sizePut] <;> omega) | fail) only [GS, TT_eq, TTl, Nat.reduceAdd, Nat.reduceMul, Nat.reduceSub, Nat.reduceDiv, Nat.reduceMod, Nat.reducePow, Nat.reduceEqDiff, ↓reduceIte, reduceCtorEq, Int.reduceToNat, Int.reduceAdd, Int.reduceSub, Int.reduceMul, cn, et, he, cn0, cp3, e8]
  generalize hp0 : 128 :: List.replicate (zerN n) (0 : UInt8) = p0 at *
  have hl0 : n + p0.length = n + 1 + zerN n := by rw [← hp0]; simp; omega
  refine hold_loop okT (rs := [.tmp 2]) rfl [5] [29, 30, 31, 32, 33, 34, 35, 36, 37, 38, 39, 40] (fun vs w' => ∃ (k : Nat), k ≤ 8 ∧ vs = [.int .i64 (56 - 8 * (k : Int))] ∧ ShaAt w' c (putF kt st wt n (p0 ++ (List.range k).map (lenB n))).1 (putF kt st wt n (p0 ++ (List.range k).map (lenB n))).2 ((n + 1 + zerN n + k : Nat) : Int) ∧ WB (putF kt st wt n (p0 ++ (List.range k).map (lenB n))).2 ∧ Mod [] w w') (fun vs _ => match vs with | [.int _ i] => (i + 8).toNat | _ => 0) (by kernel_rfl) ⟨0, by omega, rfl, by simpa using hC3, by simpa using hB3, hM3⟩ ?_
  clear hC3 hB3 hM3 cn cn0
  rintro vs w4 J4 ⟨k, hk, rfl, hC4, hB4, hM4⟩
  by_cases hlt : k < 8
  · have cp : capN .u64 (56 - 8 * k) = 56 - 8 * k := by simp [capN, IntKind.bits]; omega
    have et3 : (56 - 8 * (k : Int)).toNat = 56 - 8 * k := by omega
    have eb : UInt8.ofNat (IntKind.u8.wrap (((n * 8 : Nat) : Int).fdiv (2 ^ (56 - 8 * k)))).toNat = lenB n k := rfl
    simp (maxSteps := 1000000) (disch := first | omega | (simp only [sizeAlloc, sizeDrew, sizeSet, sizePut] <;> omega) | fail) only [GS, TT_eq, TTl, Nat.reduceAdd, Nat.reduceMul, Nat.reduceSub, Nat.reduceDiv, Nat.reduceMod, Nat.reducePow, Nat.reduceEqDiff, ↓reduceIte, reduceCtorEq, Int.reduceToNat, Int.reduceAdd, Int.reduceSub, Int.reduceMul, cp, et3, eb]
    have hMa := (Mod.refl [] w4).alloc (.cells #[Value.int IntKind.u8 (IntKind.u8.wrap (((n * 8 : Nat) : Int).fdiv (2 ^ (56 - 8 * k))))] 5)
    refine ⟨fok134, shaWrite_cps c _ _ kt (n + 1 + zerN n + k) [lenB n k] hB4 (by simp [zerN]; omega) _ (hC4.mod0 hMa) ((hK.mod hM4 (by simp)).mod hMa (by simp)) _ fun w5 hC5 hB5 hM5 => .inl ⟨_, rfl, hold_ops okT (rs := [.tmp 2]) rfl ?_⟩⟩
    have hp := putF_app kt (p0 ++ (List.range k).map (lenB n)) [lenB n k] st wt n
    rw [List.append_assoc, show (List.range k).map (lenB n) ++ [lenB n k] = (List.range (k + 1)).map (lenB n) by rw [List.range_succ, List.map_append]; rfl, show n + (p0 ++ (List.range k).map (lenB n)).length = n + 1 + zerN n + k by simp; omega] at hp
    rw [← hp] at hC5 hB5
    simp (maxSteps := 1000000) (disch := first | omega | (simp only [sizeAlloc, sizeDrew, sizeSet, sizePut] <;> omega) | fail) only [GS, TT_eq, TTl, Nat.reduceAdd, Nat.reduceMul, Nat.reduceSub, Nat.reduceDiv, Nat.reduceMod, Nat.reducePow, Nat.reduceEqDiff, ↓reduceIte, reduceCtorEq, Int.reduceToNat, Int.reduceAdd, Int.reduceSub, Int.reduceMul]
    exact ⟨⟨k + 1, by omega, by congr 2; omega, by rw [← Nat.add_assoc]; exact hC5, hB5, (hM4.trans hMa (by simp)).trans hM5 (by intro y hy; simp only [List.mem_singleton] at hy; subst hy; exact .inr hc)⟩, by omega⟩
  have ek : k = 8 := by omega
  subst ek
  have hpad : p0 ++ (List.range 8).map (lenB n) = padF n := by rw [← hp0]; rfl
  rw [hpad] at hC4 hB4
  unfold sumF at hR
  generalize (putF kt st wt n (padF n)).1 = st4 at *
  generalize (putF kt st wt n (padF n)).2 = wt4 at *
  simp (maxSteps := 1000000) (disch := first | omega | (simp only [sizeAlloc, sizeDrew, sizeSet, sizePut] <;> omega) | fail) only [GS, TT_eq, TTl, Nat.reduceAdd, Nat.reduceMul, Nat.reduceSub, Nat.reduceDiv, Nat.reduceMod, Nat.reducePow, Nat.reduceEqDiff, ↓reduceIte, reduceCtorEq, Int.reduceToNat, Int.reduceAdd, Int.reduceSub, Int.reduceMul]
  refine hold_makeSlice okT rfl rfl rfl rfl rfl (Nat.zero_le 32) (by decide) (by decide) fun z hz => hold_ops okT (rs := [.tmp 2]) rfl ?_
  have hown := World.ownsRow_made (e := 5) (size := 1) (base := w4.heap.size) w4 (madeCells z.cells (32 * 1)) 32 (Nat.le_refl _) (by decide) (size_madeCells _ _)
  have hMa := (Mod.refl [] w4).alloc (.cells (madeCells z.cells (32 * 1)) 5)
  have hC5 := hC4.mod0 hMa
  have hM5 := hM4.trans hMa (by simp)
  have hcl := ltOf hC4.1
  have hb5 := hMa.size
  have hw4 := hM4.size
  generalize w4.alloc (.cells (madeCells z.cells (32 * 1)) 5) = w5 at *
  obtain ⟨a, b, c2, d, e, f, g, i, rfl⟩ := list8 hC5.2.1
  have s0 : w5.cell? ⟨c, 0, none⟩ = some (.int .u32 a) := sha_st hC5 (i := 0) (by omega)
  have s1 : w5.cell? ⟨c, 1, none⟩ = some (.int .u32 b) := sha_st hC5 (i := 1) (by omega)
  have s2 : w5.cell? ⟨c, 2, none⟩ = some (.int .u32 c2) := sha_st hC5 (i := 2) (by omega)
  have s3 : w5.cell? ⟨c, 3, none⟩ = some (.int .u32 d) := sha_st hC5 (i := 3) (by omega)
  have s4 : w5.cell? ⟨c, 4, none⟩ = some (.int .u32 e) := sha_st hC5 (i := 4) (by omega)
  have s5 : w5.cell? ⟨c, 5, none⟩ = some (.int .u32 f) := sha_st hC5 (i := 5) (by omega)
  have s6 : w5.cell? ⟨c, 6, none⟩ = some (.int .u32 g) := sha_st hC5 (i := 6) (by omega)
  have s7 : w5.cell? ⟨c, 7, none⟩ = some (.int .u32 i) := sha_st hC5 (i := 7) (by omega)
  simp (maxSteps := 1000000) (disch := first | omega | (simp only [sizeAlloc, sizeDrew, sizeSet, sizePut] <;> omega) | fail) only [GS, TT_eq, TTl, Nat.reduceAdd, Nat.reduceMul, Nat.reduceSub, Nat.reduceDiv, Nat.reduceMod, Nat.reducePow, Nat.reduceEqDiff, ↓reduceIte, reduceCtorEq, Int.reduceToNat, Int.reduceAdd, Int.reduceSub, Int.reduceMul, s0, s1, s2, s3, s4, s5, s6, s7]
  clear s0 s1 s2 s3 s4 s5 s6 s7 hC5 hC4 hM4 hMa hB4
  refine hold_loop okT (rs := [.tmp 2]) rfl [6, 46] [8, 47, 48, 49, 50, 51, 52, 53, 54, 55, 56, 57, 58, 59, 60, 61, 62, 63] (fun vs w' => ∃ (k : Nat) (sv : Value), k ≤ 8 ∧ vs = [sv, .int .i64 k] ∧ w'.ownsRow w4.heap.size 5 1 sv (4 * k) ((outF (([a, b, c2, d, e, f, g, i] : List Int).take k)).map byteV) ∧ w4.heap.size ≤ w'.heap.size ∧ Mod [] w w') (fun vs _ => match vs with | [_, .int _ i] => 8 - i.toNat | _ => 0) (by kernel_rfl) ⟨0, _, by omega, rfl, hown, hb5, hM5⟩ ?_
  clear hown
  rintro vs w6 J6 ⟨k, sv, hk, rfl, hown, hb6, hM6⟩
  by_cases hlt : k < 8
  · have e5 : one (tke 1 (drp k [Value.int .u32 a, Value.int .u32 b, Value.int .u32 c2, Value.int .u32 d, Value.int .u32 e, Value.int .u32 f, Value.int .u32 g, Value.int .u32 i])) = some (.int .u32 (getI [a, b, c2, d, e, f, g, i] k)) := pick8 [a, b, c2, d, e, f, g, i] k hlt
    have e6 : ∀ v, chkO (0 ≤ (k : Int) ∧ (k : Int) < 8) v = v := fun v => chkO_pos ⟨by omega, by omega⟩
    have q1 := cap32 24 (by omega)
    have q2 := cap32 16 (by omega)
    have q3 := cap32 8 (by omega)
    have htk : (([a, b, c2, d, e, f, g, i] : List Int).take (k + 1)) = ([a, b, c2, d, e, f, g, i] : List Int).take k ++ [getI [a, b, c2, d, e, f, g, i] k] := by rw [List.take_succ_eq_append_getElem (by simpa using hlt)]; congr 2; unfold getI; rw [List.getD_eq_getElem?_getD, List.getElem?_eq_getElem (by simpa using hlt)]; rfl
    generalize getI [a, b, c2, d, e, f, g, i] k = v at *
    have eb : [Value.int .u8 (IntKind.u8.wrap (v.fdiv (2 ^ 24))), Value.int .u8 (IntKind.u8.wrap (v.fdiv (2 ^ 16))), Value.int .u8 (IntKind.u8.wrap (v.fdiv (2 ^ 8))), Value.int .u8 (IntKind.u8.wrap v)] = (outF [v]).map byteV := by
      simp only [outF, List.flatMap_cons, List.flatMap_nil, List.append_nil, List.map_cons, List.map_nil, byteV, byF_eq]
    have hw6 := hM6.size
    simp (maxSteps := 1000000) (disch := first | omega | (simp only [sizeAlloc, sizeDrew, sizeSet, sizePut] <;> omega) | fail) only [GS, TT_eq, TTl, Nat.reduceAdd, Nat.reduceMul, Nat.reduceSub, Nat.reduceDiv, Nat.reduceMod, Nat.reducePow, Nat.reduceEqDiff, ↓reduceIte, reduceCtorEq, Int.reduceToNat, Int.reduceAdd, Int.reduceSub, Int.reduceMul, e5, e6, q1, q2, q3]
    refine hold_appendN (v := sv) okT rfl rfl rfl rfl (by decide) w4.heap.size hown rfl rfl rfl (by decide) (by intro u hu; simp only [List.mem_cons, List.not_mem_nil, or_false] at hu; rcases hu with rfl | rfl | rfl | rfl <;> rfl) (by simp only; omega) (by unfold maxLen; omega) hb6 fun v' w7 hown7 hM7 _ => hold_ops okT (rs := [.tmp 2]) rfl ?_
    rw [eb, ← List.map_append, ← outF_app, ← htk] at hown7
    simp (maxSteps := 1000000) (disch := first | omega | (simp only [sizeAlloc, sizeDrew, sizeSet, sizePut] <;> omega) | fail) only [GS, TT_eq, TTl, Nat.reduceAdd, Nat.reduceMul, Nat.reduceSub, Nat.reduceDiv, Nat.reduceMod, Nat.reducePow, Nat.reduceEqDiff, ↓reduceIte, reduceCtorEq, Int.reduceToNat, Int.reduceAdd, Int.reduceSub, Int.reduceMul]
    exact ⟨⟨k + 1, v', by omega, rfl, hown7, Nat.le_trans hb6 hM7.size, hM6.trans hM7 (by intro y hy; exact .inr (by have := (hown.lt y (by simpa using hy)).1; omega))⟩, by omega⟩
  have ek : k = 8 := by omega
  subst ek
  have ho : (outF [a, b, c2, d, e, f, g, i]).length = 32 := by rw [outF_len]; rfl
  have htk : (([a, b, c2, d, e, f, g, i] : List Int).take 8) = [a, b, c2, d, e, f, g, i] := rfl
  rw [htk] at hown
  generalize outF [a, b, c2, d, e, f, g, i] = o at *
  obtain ⟨A, cap, rfl, hL⟩ := row_load hown (by omega)
  rw [show 4 * 8 = 32 from rfl] at hL
  have hbL : bytesL (o.map byteV) = some o := bytesL_map o
  simp (maxSteps := 1000000) (disch := first | omega | (simp only [sizeAlloc, sizeDrew, sizeSet, sizePut] <;> omega) | fail) only [GS, TT_eq, TTl, Nat.reduceAdd, Nat.reduceMul, Nat.reduceSub, Nat.reduceDiv, Nat.reduceMod, Nat.reducePow, Nat.reduceEqDiff, ↓reduceIte, reduceCtorEq, Int.reduceToNat, Int.reduceAdd, Int.reduceSub, Int.reduceMul, ↓hL, hbL]
  exact hR w6 hM6
end Go.Proofs.Ytoladcdelaemoaa
