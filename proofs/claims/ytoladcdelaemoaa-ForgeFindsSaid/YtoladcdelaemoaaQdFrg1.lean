/-
  Steps: what each comes to (walks).
-/
import Derived.Test.YtoladcdelaemoaaQdB5
import Derived.Test.YtoladcdelaemoaaQdB1
set_option linter.unusedSimpArgs false
set_option linter.unusedVariables false
set_option maxRecDepth 20000
namespace Go.Proofs.Ytoladcdelaemoaa
open Go Go.Wk Go.RowKit
attribute [local irreducible] go Hold
open Go.Lib
/-- A step; the slice that its row lies in. -/
structure Stp where
  d : Nat
  a : Int
  b : Int
  c : Int
  n : Int
  text : List UInt8
  list : List Int
  sv : Value
def stpC (x : Stp) : List Value := [.int .u8 x.d, .int .i64 x.a, .int .i64 x.b, .int .i64 x.c, .int .i64 x.n, .string ⟨x.text.toArray⟩, x.sv]
theorem stpC_len (x : Stp) : (stpC x).length = 7 := rfl
/-- A step that may come in. -/
structure StpIn (w : World) (x : Stp) : Prop where
  d : x.d < 256
  a : -9223372036854775808 ≤ x.a ∧ x.a ≤ 9223372036854775807
  b : -9223372036854775808 ≤ x.b ∧ x.b ≤ 9223372036854775807
  c : -9223372036854775808 ≤ x.c ∧ x.c ≤ 9223372036854775807
  n : -9223372036854775808 ≤ x.n ∧ x.n ≤ 9223372036854775807
  text : x.text.length ≤ maxLen
  len : x.list.length ≤ 9223372036854775807
  list : ∀ v ∈ x.list, -9223372036854775808 ≤ v ∧ v ≤ 9223372036854775807
  rd : Rd w 1 x.sv x.list.length (x.list.map (Value.int .i64))
theorem StpIn.mod {w w' : World} {x : Stp} (h : StpIn w x) {S : List Nat} (hm : Mod S w w') (hS : ∀ b, blkOf x.sv = some b → b ∉ S) : StpIn w' x := ⟨h.d, h.a, h.b, h.c, h.n, h.text, h.len, h.list, h.rd.mod hm hS⟩
def wrF (n : Nat) (e : Int) : List PanicEntry := [{ v := .iface 103 (.agg #[.int .i64 n, .int .i64 e]), recovered := false }]
/-- How a step ends, behind n others. -/
def endD (n : Nat) (p : List UInt8 × Int) : Ending := if p.2 = 0 then .returned (.string ⟨p.1.toArray⟩) else .panicked (wrF n p.2)
/-- Steps that are being done. -/
structure RunOk (w : World) (rp : Nat) (sv lv : Value) (seen l : List (List UInt8)) : Prop where
  hp : w.heap[rp]? = some (.cells #[sv, lv] 107 (0, 0))
  rs : Rd w 1 sv seen.length (seen.map strV)
  rl : Rd w 1 lv l.length (l.map strV)
  hs : ∀ s ∈ seen, s.length ≤ maxLen
  ls : seen.length ≤ 9223372036854775807
  hl : ∀ s ∈ l, checkS s = 0
  ll : l.length ≤ 100000
theorem RunOk.mod {w w' : World} {rp : Nat} {sv lv : Value} {seen l : List (List UInt8)} (h : RunOk w rp sv lv seen l) (hm : Mod [] w w') : RunOk w' rp sv lv seen l :=
  ⟨hm.get h.hp (by simp), h.rs.mod hm (by simp), h.rl.mod hm (by simp), h.hs, h.ls, h.hl, h.ll⟩
theorem RunOk.len {w : World} {rp : Nat} {sv lv : Value} {seen l : List (List UInt8)} (h : RunOk w rp sv lv seen l) {s : List UInt8} (hs : s ∈ l) : s.length ≤ 16384 := (check0 (h.hl s hs)).2.2.1
theorem fMust_cps (rp : Nat) (b : Bool) (e : Int) (sv lv : Value) (n : Nat) (w : World) (R : Ending → World → Prop) (hp : w.heap[rp]? = some (.cells #[sv, lv] 107 (0, 0))) (hl : ∃ a c, lv = .slice a n c)
    (h1 : b = true → R (.returned (.tuple #[])) w) (h0 : b = false → R (.panicked (wrF n e)) w) : Calls Try.prog 76 #[.pointer (some ⟨rp, 0, none⟩), .bool b, .int .i64 e] w R := by
  obtain ⟨a, c, rfl⟩ := hl
  have c1 : w.cell? ⟨rp, 1, none⟩ = some (.slice a n c) := by rw [cellOf hp]; rfl
  refine calls_go 4000 okT Try.func76 rfl (rs := []) rfl Try.ntmps76 (args := [.pointer (some ⟨rp, 0, none⟩), .bool b, .int .i64 e]) ?_
  cases b
  · simp (maxSteps := 1000000) (disch := first | omega | (simp only [sizeAlloc, sizeDrew, sizeSet, sizePut] <;> omega) | fail) only [GS, TT_eq, TTl, Nat.reduceAdd, Nat.reduceMul, Nat.reduceSub, Nat.reduceDiv, Nat.reduceMod, Nat.reducePow, Nat.reduceEqDiff, ↓reduceIte, reduceCtorEq, Int.reduceToNat, Int.reduceAdd, Int.reduceSub, Int.reduceMul, c1]
    unfold panW
    refine hold_ex okT (rs := []) rfl ?_
    simp (maxSteps := 1000000) (disch := first | omega | (simp only [sizeAlloc, sizeDrew, sizeSet, sizePut] <;> omega) | fail) only [GS, TT_eq, TTl, Nat.reduceAdd, Nat.reduceMul, Nat.reduceSub, Nat.reduceDiv, Nat.reduceMod, Nat.reducePow, Nat.reduceEqDiff, ↓reduceIte, reduceCtorEq, Int.reduceToNat, Int.reduceAdd, Int.reduceSub, Int.reduceMul]
    exact h0 rfl
  · simp (maxSteps := 1000000) (disch := first | omega | (simp only [sizeAlloc, sizeDrew, sizeSet, sizePut] <;> omega) | fail) only [GS, TT_eq, TTl, Nat.reduceAdd, Nat.reduceMul, Nat.reduceSub, Nat.reduceDiv, Nat.reduceMod, Nat.reducePow, Nat.reduceEqDiff, ↓reduceIte, reduceCtorEq, Int.reduceToNat, Int.reduceAdd, Int.reduceSub, Int.reduceMul, c1]
    exact h1 rfl
/-- What is made, or that it is too long. -/
def mk5 (p : List UInt8 × Int) : List UInt8 × Int := if p.2 = 0 then p else ([], 5)
theorem fMade_cps (rp : Nat) (t : List UInt8) (e : Int) (sv lv : Value) (n : Nat) (w : World) (R : Ending → World → Prop) (hp : w.heap[rp]? = some (.cells #[sv, lv] 107 (0, 0))) (hl : ∃ a c, lv = .slice a n c)
    (hR : R (endD n (mk5 (t, e))) w) : Calls Try.prog 98 #[.pointer (some ⟨rp, 0, none⟩), .string ⟨t.toArray⟩, .int .i64 e] w R := by
  refine calls_go 4000 okT Try.func98 rfl (rs := [.tmp 6]) rfl Try.ntmps98 (args := [.pointer (some ⟨rp, 0, none⟩), .string ⟨t.toArray⟩, .int .i64 e]) ?_
  simp (maxSteps := 1000000) (disch := first | omega | (simp only [sizeAlloc, sizeDrew, sizeSet, sizePut] <;> omega) | fail) only [GS, TT_eq, TTl, Nat.reduceAdd, Nat.reduceMul, Nat.reduceSub, Nat.reduceDiv, Nat.reduceMod, Nat.reducePow, Nat.reduceEqDiff, ↓reduceIte, reduceCtorEq, Int.reduceToNat, Int.reduceAdd, Int.reduceSub, Int.reduceMul]
  unfold mk5 endD at hR
  refine ⟨fok76, fMust_cps rp (decide (e = 0)) 5 sv lv n _ _ hp hl (fun h => ?_) (fun h => ?_)⟩
  · have he : e = 0 := by simpa using h
    refine .inl ⟨_, rfl, hold_ops okT (rs := [.tmp 6]) rfl ?_⟩
    simp (maxSteps := 1000000) (disch := first | omega | (simp only [sizeAlloc, sizeDrew, sizeSet, sizePut] <;> omega) | fail) only [GS, TT_eq, TTl, Nat.reduceAdd, Nat.reduceMul, Nat.reduceSub, Nat.reduceDiv, Nat.reduceMod, Nat.reducePow, Nat.reduceEqDiff, ↓reduceIte, reduceCtorEq, Int.reduceToNat, Int.reduceAdd, Int.reduceSub, Int.reduceMul]
    simpa [he] using hR
  · have he : e ≠ 0 := by simpa using h
    refine .inr ⟨_, rfl, hold_ex okT (rs := [.tmp 6]) rfl ?_⟩
    simp (maxSteps := 1000000) (disch := first | omega | (simp only [sizeAlloc, sizeDrew, sizeSet, sizePut] <;> omega) | fail) only [GS, TT_eq, TTl, Nat.reduceAdd, Nat.reduceMul, Nat.reduceSub, Nat.reduceDiv, Nat.reduceMod, Nat.reducePow, Nat.reduceEqDiff, ↓reduceIte, reduceCtorEq, Int.reduceToNat, Int.reduceAdd, Int.reduceSub, Int.reduceMul]
    simpa [he] using hR
/-- What stands at a number. -/
def atL (l : List (List UInt8)) (i : Int) : List UInt8 := l.getD i.toNat []
theorem atL_get {l : List (List UInt8)} {i : Int} (h0 : 0 ≤ i) (h1 : i < l.length) : ∃ h : i.toNat < l.length, atL l i = l[i.toNat] := by
  refine ⟨by omega, ?_⟩
  unfold atL
  rw [List.getD_eq_getElem?_getD, List.getElem?_eq_getElem (by omega)]; rfl
theorem atL_mem {l : List (List UInt8)} {i : Int} (h0 : 0 ≤ i) (h1 : i < l.length) : atL l i ∈ l := by
  obtain ⟨h, e⟩ := atL_get h0 h1
  rw [e]; exact List.getElem_mem h
theorem rdAt {w : World} {v : Value} {l : List (List UInt8)} {n : Nat} (hn : n = l.length) (h : Rd w 1 v n (l.map strV)) {i : Int} (h0 : 0 ≤ i) (h1 : i < l.length) :
    ∃ b o c, v = .slice (some ⟨b, o, none⟩) n c ∧ w.cell? ⟨b, o + i.toNat, none⟩ = some (.string ⟨(atL l i).toArray⟩) := by
  subst hn
  obtain ⟨b, o, c, e, _, g⟩ := h.at (by omega) (by omega)
  obtain ⟨h2, e2⟩ := atL_get h0 h1
  exact ⟨b, o, c, e, by rw [e2]; exact g _ _ (getS h2)⟩
def lookD (seen : List (List UInt8)) (x : Stp) : List UInt8 × Int := if 0 ≤ x.n ∧ x.n < seen.length then (if checkS (atL seen x.n) = 0 then (atL seen x.n, 0) else ([], 2)) else ([], 3)
def dataD (x : Stp) : List UInt8 × Int := mk5 (dataS x.text)
def partsD (l : List (List UInt8)) (x : Stp) : List (List UInt8) := partsS (atL l x.a)
def partD (l : List (List UInt8)) (x : Stp) : List UInt8 × Int := if kindS (atL l x.a) = 3 then (if 0 ≤ x.n ∧ x.n < (partsD l x).length then (atL (partsD l x) x.n, 0) else ([], 3)) else ([], 8)
def nonceD (l : List (List UInt8)) (x : Stp) : List UInt8 × Int := if kindS (atL l x.a) = 6 then (atL (partsD l x) 1, 0) else ([], 8)
def bodyD (l : List (List UInt8)) (x : Stp) : List UInt8 × Int := if kindS (atL l x.a) = 6 then (if atL (partsD l x) 0 = atL l x.b then (atL (partsD l x) 2, 0) else ([], 80)) else ([], 8)
def rowD (l : List (List UInt8)) (x : Stp) : List UInt8 × Int := if x.list.length ≤ 32 then mk5 (madeS (114 :: numL (x.list.map (atL l)).length) (x.list.map (atL l))) else ([], 5)
def hashD (l : List (List UInt8)) (x : Stp) : List UInt8 × Int := mk5 (madeS [104] [atL l x.a])
def macD (l : List (List UInt8)) (x : Stp) : List UInt8 × Int := mk5 (madeS [109] [atL l x.a, atL l x.b])
def sealD (l : List (List UInt8)) (x : Stp) : List UInt8 × Int := mk5 (madeS [115] [atL l x.a, atL l x.b, atL l x.c])
theorem st0 {x : Stp} : (stpC x).toArray[0]? = some (.int .u8 x.d) := rfl
theorem st1 {x : Stp} : (stpC x).toArray[1]? = some (.int .i64 x.a) := rfl
theorem st2 {x : Stp} : (stpC x).toArray[2]? = some (.int .i64 x.b) := rfl
theorem st3 {x : Stp} : (stpC x).toArray[3]? = some (.int .i64 x.c) := rfl
theorem st4 {x : Stp} : (stpC x).toArray[4]? = some (.int .i64 x.n) := rfl
theorem st5 {x : Stp} : (stpC x).toArray[5]? = some (.string ⟨x.text.toArray⟩) := rfl
theorem st6 {x : Stp} : (stpC x).toArray[6]? = some x.sv := rfl
/-- Steps that are being done, and a step that lies boxed. -/
structure FX (w : World) (bx rp : Nat) (sv lv : Value) (seen l : List (List UInt8)) (x : Stp) : Prop where
  run : RunOk w rp sv lv seen l
  inp : StpIn w x
  bx : w.heap[bx]? = some (.cells (stpC x).toArray 55 (0, 0))
theorem FX.mod {w w' : World} {bx rp : Nat} {sv lv : Value} {seen l : List (List UInt8)} {x : Stp} (h : FX w bx rp sv lv seen l x) (hm : Mod [] w w') : FX w' bx rp sv lv seen l x := ⟨h.run.mod hm, h.inp.mod hm (by simp), hm.get h.bx (by simp)⟩
section
variable {w : World} {bx rp : Nat} {sv lv : Value} {seen l : List (List UInt8)} {x : Stp}
theorem FX.cd (h : FX w bx rp sv lv seen l x) : w.cell? ⟨bx, 0, none⟩ = some (.int .u8 x.d) := by rw [cellOf h.bx]; rfl
theorem FX.ca (h : FX w bx rp sv lv seen l x) : w.cell? ⟨bx, 1, none⟩ = some (.int .i64 x.a) := by rw [cellOf h.bx]; rfl
theorem FX.cb (h : FX w bx rp sv lv seen l x) : w.cell? ⟨bx, 2, none⟩ = some (.int .i64 x.b) := by rw [cellOf h.bx]; rfl
theorem FX.cc (h : FX w bx rp sv lv seen l x) : w.cell? ⟨bx, 3, none⟩ = some (.int .i64 x.c) := by rw [cellOf h.bx]; rfl
theorem FX.cn (h : FX w bx rp sv lv seen l x) : w.cell? ⟨bx, 4, none⟩ = some (.int .i64 x.n) := by rw [cellOf h.bx]; rfl
theorem FX.ct (h : FX w bx rp sv lv seen l x) : w.cell? ⟨bx, 5, none⟩ = some (.string ⟨x.text.toArray⟩) := by rw [cellOf h.bx]; rfl
theorem FX.cl (h : FX w bx rp sv lv seen l x) : w.cell? ⟨bx, 6, none⟩ = some x.sv := by rw [cellOf h.bx]; rfl
theorem FX.r0 (h : FX w bx rp sv lv seen l x) : w.cell? ⟨rp, 0, none⟩ = some sv := by rw [cellOf h.run.hp]; rfl
theorem FX.r1 (h : FX w bx rp sv lv seen l x) : w.cell? ⟨rp, 1, none⟩ = some lv := by rw [cellOf h.run.hp]; rfl
end
set_option maxRecDepth 20000 in
set_option maxHeartbeats 4000000 in
theorem fLook_cps (rp : Nat) (sv lv : Value) (seen l : List (List UInt8)) (x : Stp) (w : World) (R : Ending → World → Prop) (h : RunOk w rp sv lv seen l) (hx : StpIn w x) (hR : ∀ w', Mod [] w w' → R (endD l.length (lookD seen x)) w') :
    Calls Try.prog 84 #[.pointer (some ⟨rp, 0, none⟩), .agg (stpC x).toArray] w R := by
  have hM := (Mod.refl [] w).alloc (.cells (stpC x).toArray 55)
  have F : FX (w.alloc (.cells (stpC x).toArray 55)) w.heap.size rp sv lv seen l x := ⟨h.mod hM, hx.mod hM (by simp), heapNew⟩
  have hz := ltOf h.hp
  obtain ⟨la, lc, rfl⟩ := h.rl.slice
  obtain ⟨sa, sc, rfl⟩ := h.rs.slice
  have hsl : ∃ a c, (Value.slice la l.length lc) = .slice a l.length c := ⟨_, _, rfl⟩
  obtain ⟨xo, xcap, hsv⟩ := hx.rd.slice
  refine calls_go 4000 okT Try.func84 rfl (rs := [.tmp 4]) rfl Try.ntmps84 (args := [.pointer (some ⟨rp, 0, none⟩), .agg (stpC x).toArray]) ?_
  simp (maxSteps := 1000000) (disch := first | omega | (simp only [sizeAlloc, sizeDrew, sizeSet, sizePut] <;> omega) | fail) only [GS, TT_eq, TTl, Nat.reduceAdd, Nat.reduceMul, Nat.reduceSub, Nat.reduceDiv, Nat.reduceMod, Nat.reducePow, Nat.reduceEqDiff, ↓reduceIte, reduceCtorEq, Int.reduceToNat, Int.reduceAdd, Int.reduceSub, Int.reduceMul, st0, st1, st2, st3, st4, st5, st6]
  generalize w.alloc _ = w1 at *
  generalize w.heap.size = bx at *
  unfold lookD endD at hR
  by_cases hn : 0 ≤ x.n ∧ x.n < seen.length
  · rw [if_pos hn] at hR
    obtain ⟨hn0, hn1⟩ := hn
    have hsm := h.hs _ (atL_mem hn0 hn1)
    refine hold_draw okT (rs := [.tmp 4]) rfl [0, 0, 2, 6, 14, 30, 62, 30, 158, 414, 926, 1950, 4094, 8190, 16383] [0, 1, 2, 3, 4, 5, 6, 7, 8, 9, 10, 11, 12, 13, 14] (by kernel_rfl) (by kernel_rfl) ?_
    have F := F.mod (Mod.drewN 1 (Mod.refl [] _))
    have hM := hM.drewN 1
    generalize World.drewN _ 1 = w2 at F hM ⊢
    simp (maxSteps := 1000000) (disch := first | omega | (simp only [sizeAlloc, sizeDrew, sizeSet, sizePut] <;> omega) | fail) only [GS, TT_eq, TTl, Nat.reduceAdd, Nat.reduceMul, Nat.reduceSub, Nat.reduceDiv, Nat.reduceMod, Nat.reducePow, Nat.reduceEqDiff, ↓reduceIte, reduceCtorEq, Int.reduceToNat, Int.reduceAdd, Int.reduceSub, Int.reduceMul, F.cn, F.r0]
    refine ⟨fok76, fMust_cps rp true 3 _ _ l.length _ _ F.run.hp hsl (fun _ => .inl ⟨_, rfl, hold_dops okT (rs := [.tmp 4]) rfl ?_⟩) (fun h => absurd h (by simp))⟩
    obtain ⟨b1, o1, c1, e1, f1⟩ := rdAt rfl F.run.rs hn0 hn1
    rw [Value.slice.injEq] at e1
    obtain ⟨rfl, -, -⟩ := e1
    simp (maxSteps := 1000000) (disch := first | omega | (simp only [sizeAlloc, sizeDrew, sizeSet, sizePut] <;> omega) | fail) only [GS, TT_eq, TTl, Nat.reduceAdd, Nat.reduceMul, Nat.reduceSub, Nat.reduceDiv, Nat.reduceMod, Nat.reducePow, Nat.reduceEqDiff, ↓reduceIte, reduceCtorEq, Int.reduceToNat, Int.reduceAdd, Int.reduceSub, Int.reduceMul]
    refine hold_draw okT (rs := [.tmp 4]) rfl [0, 0, 2, 6, 14, 0, 32, 126, 254, 510, 1022, 2047] [0, 1, 2, 3, 4, 5, 6, 7, 8, 9, 10, 11] (by kernel_rfl) (by kernel_rfl) ?_
    have F := F.mod (Mod.drewN 1 (Mod.refl [] _))
    have hM := hM.drewN 1
    generalize World.drewN _ 1 = w3 at F hM ⊢
    obtain ⟨b2, o2, c2, e2, f2⟩ := rdAt rfl F.run.rs hn0 hn1
    rw [Value.slice.injEq] at e2
    obtain ⟨e3, -, -⟩ := e2
    simp only [Option.some.injEq, Addr.mk.injEq, and_true] at e3
    obtain ⟨rfl, rfl⟩ := e3
    simp (maxSteps := 1000000) (disch := first | omega | (simp only [sizeAlloc, sizeDrew, sizeSet, sizePut] <;> omega) | fail) only [GS, TT_eq, TTl, Nat.reduceAdd, Nat.reduceMul, Nat.reduceSub, Nat.reduceDiv, Nat.reduceMod, Nat.reducePow, Nat.reduceEqDiff, ↓reduceIte, reduceCtorEq, Int.reduceToNat, Int.reduceAdd, Int.reduceSub, Int.reduceMul, F.cn, F.r0, f2]
    refine ⟨fok25, tCheck_cps _ hsm _ _ fun w4 hN => .inl ⟨_, rfl, hold_dops okT (rs := [.tmp 4]) rfl ?_⟩⟩
    have F := F.mod hN
    have hM := hM.trans hN (by simp)
    by_cases hc : checkS (atL seen x.n) = 0
    · rw [if_pos hc] at hR
      simp (maxSteps := 1000000) (disch := first | omega | (simp only [sizeAlloc, sizeDrew, sizeSet, sizePut] <;> omega) | fail) only [GS, TT_eq, TTl, Nat.reduceAdd, Nat.reduceMul, Nat.reduceSub, Nat.reduceDiv, Nat.reduceMod, Nat.reducePow, Nat.reduceEqDiff, ↓reduceIte, reduceCtorEq, Int.reduceToNat, Int.reduceAdd, Int.reduceSub, Int.reduceMul, hc]
      refine ⟨fok76, fMust_cps rp true 2 _ _ l.length _ _ F.run.hp hsl (fun _ => .inl ⟨_, rfl, hold_dops okT (rs := [.tmp 4]) rfl ?_⟩) (fun h => absurd h (by simp))⟩
      obtain ⟨b2, o2, c2, e2, f2⟩ := rdAt rfl F.run.rs hn0 hn1
      rw [Value.slice.injEq] at e2
      obtain ⟨e3, -, -⟩ := e2
      simp only [Option.some.injEq, Addr.mk.injEq, and_true] at e3
      obtain ⟨rfl, rfl⟩ := e3
      simp (maxSteps := 1000000) (disch := first | omega | (simp only [sizeAlloc, sizeDrew, sizeSet, sizePut] <;> omega) | fail) only [GS, TT_eq, TTl, Nat.reduceAdd, Nat.reduceMul, Nat.reduceSub, Nat.reduceDiv, Nat.reduceMod, Nat.reducePow, Nat.reduceEqDiff, ↓reduceIte, reduceCtorEq, Int.reduceToNat, Int.reduceAdd, Int.reduceSub, Int.reduceMul, F.cn, F.r0, f2]
      refine ⟨by kernel_rfl, fun m => ?_⟩
      exact hR _ (hM.drewN m)
    · rw [if_neg hc] at hR
      simp (maxSteps := 1000000) (disch := first | omega | (simp only [sizeAlloc, sizeDrew, sizeSet, sizePut] <;> omega) | fail) only [GS, TT_eq, TTl, Nat.reduceAdd, Nat.reduceMul, Nat.reduceSub, Nat.reduceDiv, Nat.reduceMod, Nat.reducePow, Nat.reduceEqDiff, ↓reduceIte, reduceCtorEq, Int.reduceToNat, Int.reduceAdd, Int.reduceSub, Int.reduceMul, hc]
      refine ⟨fok76, fMust_cps rp false 2 _ _ l.length _ _ F.run.hp hsl (fun h => absurd h (by simp)) (fun _ => .inr ⟨_, rfl, fun fs' => hold_ex okT (rs := [.tmp 4]) rfl ?_⟩)⟩
      simp (maxSteps := 1000000) (disch := first | omega | (simp only [sizeAlloc, sizeDrew, sizeSet, sizePut] <;> omega) | fail) only [GS, TT_eq, TTl, Nat.reduceAdd, Nat.reduceMul, Nat.reduceSub, Nat.reduceDiv, Nat.reduceMod, Nat.reducePow, Nat.reduceEqDiff, ↓reduceIte, reduceCtorEq, Int.reduceToNat, Int.reduceAdd, Int.reduceSub, Int.reduceMul]
      exact hR _ hM
  · rw [if_neg hn] at hR
    refine hold_draw okT (rs := [.tmp 4]) rfl [0, 0, 2, 6, 14, 30, 62, 30, 158, 414, 926, 1950, 4094, 8190, 16383] [0, 1, 2, 3, 4, 5, 6, 7, 8, 9, 10, 11, 12, 13, 14] (by kernel_rfl) (by kernel_rfl) ?_
    have F := F.mod (Mod.drewN 1 (Mod.refl [] _))
    have hM := hM.drewN 1
    generalize World.drewN _ 1 = w2 at F hM ⊢
    by_cases hn0 : 0 ≤ x.n
    · simp (maxSteps := 1000000) (disch := first | omega | (simp only [sizeAlloc, sizeDrew, sizeSet, sizePut] <;> omega) | fail) only [GS, TT_eq, TTl, Nat.reduceAdd, Nat.reduceMul, Nat.reduceSub, Nat.reduceDiv, Nat.reduceMod, Nat.reducePow, Nat.reduceEqDiff, ↓reduceIte, reduceCtorEq, Int.reduceToNat, Int.reduceAdd, Int.reduceSub, Int.reduceMul, F.cn, F.r0]
      refine ⟨fok76, fMust_cps rp false 3 _ _ l.length _ _ F.run.hp hsl (fun h => absurd h (by simp)) (fun _ => .inr ⟨_, rfl, fun fs' => hold_ex okT (rs := [.tmp 4]) rfl ?_⟩)⟩
      simp (maxSteps := 1000000) (disch := first | omega | (simp only [sizeAlloc, sizeDrew, sizeSet, sizePut] <;> omega) | fail) only [GS, TT_eq, TTl, Nat.reduceAdd, Nat.reduceMul, Nat.reduceSub, Nat.reduceDiv, Nat.reduceMod, Nat.reducePow, Nat.reduceEqDiff, ↓reduceIte, reduceCtorEq, Int.reduceToNat, Int.reduceAdd, Int.reduceSub, Int.reduceMul]
      exact hR _ hM
    · simp (maxSteps := 1000000) (disch := first | omega | (simp only [sizeAlloc, sizeDrew, sizeSet, sizePut] <;> omega) | fail) only [GS, TT_eq, TTl, Nat.reduceAdd, Nat.reduceMul, Nat.reduceSub, Nat.reduceDiv, Nat.reduceMod, Nat.reducePow, Nat.reduceEqDiff, ↓reduceIte, reduceCtorEq, Int.reduceToNat, Int.reduceAdd, Int.reduceSub, Int.reduceMul, F.cn, F.r0]
      refine ⟨fok76, fMust_cps rp false 3 _ _ l.length _ _ F.run.hp hsl (fun h => absurd h (by simp)) (fun _ => .inr ⟨_, rfl, fun fs' => hold_ex okT (rs := [.tmp 4]) rfl ?_⟩)⟩
      simp (maxSteps := 1000000) (disch := first | omega | (simp only [sizeAlloc, sizeDrew, sizeSet, sizePut] <;> omega) | fail) only [GS, TT_eq, TTl, Nat.reduceAdd, Nat.reduceMul, Nat.reduceSub, Nat.reduceDiv, Nat.reduceMod, Nat.reducePow, Nat.reduceEqDiff, ↓reduceIte, reduceCtorEq, Int.reduceToNat, Int.reduceAdd, Int.reduceSub, Int.reduceMul]
      exact hR _ hM
set_option maxRecDepth 20000 in
set_option maxHeartbeats 4000000 in
theorem fData_cps (rp : Nat) (sv lv : Value) (seen l : List (List UInt8)) (x : Stp) (w : World) (R : Ending → World → Prop) (h : RunOk w rp sv lv seen l) (hx : StpIn w x) (hR : ∀ w', Mod [] w w' → R (endD l.length (dataD x)) w') :
    Calls Try.prog 85 #[.pointer (some ⟨rp, 0, none⟩), .agg (stpC x).toArray] w R := by
  have hM := (Mod.refl [] w).alloc (.cells (stpC x).toArray 55)
  have F : FX (w.alloc (.cells (stpC x).toArray 55)) w.heap.size rp sv lv seen l x := ⟨h.mod hM, hx.mod hM (by simp), heapNew⟩
  have hz := ltOf h.hp
  obtain ⟨la, lc, rfl⟩ := h.rl.slice
  obtain ⟨sa, sc, rfl⟩ := h.rs.slice
  have hsl : ∃ a c, (Value.slice la l.length lc) = .slice a l.length c := ⟨_, _, rfl⟩
  obtain ⟨xo, xcap, hsv⟩ := hx.rd.slice
  refine calls_go 4000 okT Try.func85 rfl (rs := [.tmp 4]) rfl Try.ntmps85 (args := [.pointer (some ⟨rp, 0, none⟩), .agg (stpC x).toArray]) ?_
  simp (maxSteps := 1000000) (disch := first | omega | (simp only [sizeAlloc, sizeDrew, sizeSet, sizePut] <;> omega) | fail) only [GS, TT_eq, TTl, Nat.reduceAdd, Nat.reduceMul, Nat.reduceSub, Nat.reduceDiv, Nat.reduceMod, Nat.reducePow, Nat.reduceEqDiff, ↓reduceIte, reduceCtorEq, Int.reduceToNat, Int.reduceAdd, Int.reduceSub, Int.reduceMul, st0, st1, st2, st3, st4, st5, st6]
  generalize w.alloc _ = w1 at *
  generalize w.heap.size = bx at *
  refine ⟨fok30, tData_cps _ hx.text _ _ fun w2 hN => .inl ⟨_, rfl, hold_ops okT (rs := [.tmp 4]) rfl ?_⟩⟩
  have F := F.mod hN
  have hM := hM.trans hN (by simp)
  unfold dataD at hR
  generalize dataS x.text = X at hR ⊢
  obtain ⟨t, e⟩ := X
  unfold stV
  simp (maxSteps := 1000000) (disch := first | omega | (simp only [sizeAlloc, sizeDrew, sizeSet, sizePut] <;> omega) | fail) only [GS, TT_eq, TTl, Nat.reduceAdd, Nat.reduceMul, Nat.reduceSub, Nat.reduceDiv, Nat.reduceMod, Nat.reducePow, Nat.reduceEqDiff, ↓reduceIte, reduceCtorEq, Int.reduceToNat, Int.reduceAdd, Int.reduceSub, Int.reduceMul]
  refine ⟨fok98, fMade_cps rp _ _ _ _ l.length _ _ F.run.hp hsl ?_⟩
  specialize hR _ hM
  unfold endD at hR ⊢
  by_cases hz5 : (mk5 (t, e)).2 = 0
  · rw [if_pos hz5] at hR ⊢
    refine .inl ⟨_, rfl, hold_ops okT (rs := [.tmp 4]) rfl ?_⟩
    simp (maxSteps := 1000000) (disch := first | omega | (simp only [sizeAlloc, sizeDrew, sizeSet, sizePut] <;> omega) | fail) only [GS, TT_eq, TTl, Nat.reduceAdd, Nat.reduceMul, Nat.reduceSub, Nat.reduceDiv, Nat.reduceMod, Nat.reducePow, Nat.reduceEqDiff, ↓reduceIte, reduceCtorEq, Int.reduceToNat, Int.reduceAdd, Int.reduceSub, Int.reduceMul]
    exact hR
  · rw [if_neg hz5] at hR ⊢
    refine .inr ⟨_, rfl, hold_ex okT (rs := [.tmp 4]) rfl ?_⟩
    simp (maxSteps := 1000000) (disch := first | omega | (simp only [sizeAlloc, sizeDrew, sizeSet, sizePut] <;> omega) | fail) only [GS, TT_eq, TTl, Nat.reduceAdd, Nat.reduceMul, Nat.reduceSub, Nat.reduceDiv, Nat.reduceMod, Nat.reducePow, Nat.reduceEqDiff, ↓reduceIte, reduceCtorEq, Int.reduceToNat, Int.reduceAdd, Int.reduceSub, Int.reduceMul]
    exact hR
set_option maxRecDepth 20000 in
set_option maxHeartbeats 4000000 in
theorem fHash_cps (rp : Nat) (sv lv : Value) (seen l : List (List UInt8)) (x : Stp) (w : World) (R : Ending → World → Prop) (h : RunOk w rp sv lv seen l) (hx : StpIn w x) (ha0 : 0 ≤ x.a) (ha1 : x.a < l.length) (hR : ∀ w', Mod [] w w' → R (endD l.length (hashD l x)) w') :
    Calls Try.prog 90 #[.pointer (some ⟨rp, 0, none⟩), .agg (stpC x).toArray] w R := by
  have hM := (Mod.refl [] w).alloc (.cells (stpC x).toArray 55)
  have F : FX (w.alloc (.cells (stpC x).toArray 55)) w.heap.size rp sv lv seen l x := ⟨h.mod hM, hx.mod hM (by simp), heapNew⟩
  have hz := ltOf h.hp
  obtain ⟨la, lc, rfl⟩ := h.rl.slice
  obtain ⟨sa, sc, rfl⟩ := h.rs.slice
  have hsl : ∃ a c, (Value.slice la l.length lc) = .slice a l.length c := ⟨_, _, rfl⟩
  obtain ⟨xo, xcap, hsv⟩ := hx.rd.slice
  refine calls_go 4000 okT Try.func90 rfl (rs := [.tmp 4]) rfl Try.ntmps90 (args := [.pointer (some ⟨rp, 0, none⟩), .agg (stpC x).toArray]) ?_
  simp (maxSteps := 1000000) (disch := first | omega | (simp only [sizeAlloc, sizeDrew, sizeSet, sizePut] <;> omega) | fail) only [GS, TT_eq, TTl, Nat.reduceAdd, Nat.reduceMul, Nat.reduceSub, Nat.reduceDiv, Nat.reduceMod, Nat.reducePow, Nat.reduceEqDiff, ↓reduceIte, reduceCtorEq, Int.reduceToNat, Int.reduceAdd, Int.reduceSub, Int.reduceMul, st0, st1, st2, st3, st4, st5, st6]
  generalize w.alloc _ = w1 at *
  generalize w.heap.size = bx at *
  refine hold_draw okT (rs := [.tmp 4]) rfl [0, 0, 2, 6, 14, 0, 32, 126, 254, 510, 1022, 1022, 4095, 8191] [0, 1, 2, 3, 4, 5, 6, 7, 8, 9, 10, 11, 12, 13] (by kernel_rfl) (by kernel_rfl) ?_
  have F := F.mod (Mod.drewN 1 (Mod.refl [] _))
  have hM := hM.drewN 1
  generalize World.drewN _ 1 = w2 at F hM ⊢
  obtain ⟨b1, o1, c1, e1, f1⟩ := rdAt rfl F.run.rl ha0 ha1
  rw [Value.slice.injEq] at e1
  obtain ⟨rfl, -, -⟩ := e1
  simp (maxSteps := 1000000) (disch := first | omega | (simp only [sizeAlloc, sizeDrew, sizeSet, sizePut] <;> omega) | fail) only [GS, TT_eq, TTl, Nat.reduceAdd, Nat.reduceMul, Nat.reduceSub, Nat.reduceDiv, Nat.reduceMod, Nat.reducePow, Nat.reduceEqDiff, ↓reduceIte, reduceCtorEq, Int.reduceToNat, Int.reduceAdd, Int.reduceSub, Int.reduceMul, F.r1, F.ca, f1]
  refine ⟨fok100, tHash_cps _ (by have := h.len (atL_mem ha0 ha1); omega) _ _ fun w3 hN => .inl ⟨_, rfl, hold_dops okT (rs := [.tmp 4]) rfl ?_⟩⟩
  have F := F.mod hN
  have hM := hM.trans hN (by simp)
  unfold hashD at hR
  generalize madeS [104] [atL l x.a] = X at hR ⊢
  obtain ⟨t, e⟩ := X
  unfold stV
  simp (maxSteps := 1000000) (disch := first | omega | (simp only [sizeAlloc, sizeDrew, sizeSet, sizePut] <;> omega) | fail) only [GS, TT_eq, TTl, Nat.reduceAdd, Nat.reduceMul, Nat.reduceSub, Nat.reduceDiv, Nat.reduceMod, Nat.reducePow, Nat.reduceEqDiff, ↓reduceIte, reduceCtorEq, Int.reduceToNat, Int.reduceAdd, Int.reduceSub, Int.reduceMul]
  refine ⟨fok98, fMade_cps rp _ _ _ _ l.length _ _ F.run.hp hsl ?_⟩
  specialize hR _ hM
  unfold endD at hR ⊢
  by_cases hz5 : (mk5 (t, e)).2 = 0
  · rw [if_pos hz5] at hR ⊢
    refine .inl ⟨_, rfl, hold_dops okT (rs := [.tmp 4]) rfl ?_⟩
    simp (maxSteps := 1000000) (disch := first | omega | (simp only [sizeAlloc, sizeDrew, sizeSet, sizePut] <;> omega) | fail) only [GS, TT_eq, TTl, Nat.reduceAdd, Nat.reduceMul, Nat.reduceSub, Nat.reduceDiv, Nat.reduceMod, Nat.reducePow, Nat.reduceEqDiff, ↓reduceIte, reduceCtorEq, Int.reduceToNat, Int.reduceAdd, Int.reduceSub, Int.reduceMul]
    exact hR
  · rw [if_neg hz5] at hR ⊢
    refine .inr ⟨_, rfl, fun fs' => hold_ex okT (rs := [.tmp 4]) rfl ?_⟩
    simp (maxSteps := 1000000) (disch := first | omega | (simp only [sizeAlloc, sizeDrew, sizeSet, sizePut] <;> omega) | fail) only [GS, TT_eq, TTl, Nat.reduceAdd, Nat.reduceMul, Nat.reduceSub, Nat.reduceDiv, Nat.reduceMod, Nat.reducePow, Nat.reduceEqDiff, ↓reduceIte, reduceCtorEq, Int.reduceToNat, Int.reduceAdd, Int.reduceSub, Int.reduceMul]
    exact hR
set_option maxRecDepth 20000 in
set_option maxHeartbeats 4000000 in
theorem fMac_cps (rp : Nat) (sv lv : Value) (seen l : List (List UInt8)) (x : Stp) (w : World) (R : Ending → World → Prop) (h : RunOk w rp sv lv seen l) (hx : StpIn w x) (ha0 : 0 ≤ x.a) (ha1 : x.a < l.length) (hb0 : 0 ≤ x.b) (hb1 : x.b < l.length) (hR : ∀ w', Mod [] w w' → R (endD l.length (macD l x)) w') :
    Calls Try.prog 91 #[.pointer (some ⟨rp, 0, none⟩), .agg (stpC x).toArray] w R := by
  have hM := (Mod.refl [] w).alloc (.cells (stpC x).toArray 55)
  have F : FX (w.alloc (.cells (stpC x).toArray 55)) w.heap.size rp sv lv seen l x := ⟨h.mod hM, hx.mod hM (by simp), heapNew⟩
  have hz := ltOf h.hp
  obtain ⟨la, lc, rfl⟩ := h.rl.slice
  obtain ⟨sa, sc, rfl⟩ := h.rs.slice
  have hsl : ∃ a c, (Value.slice la l.length lc) = .slice a l.length c := ⟨_, _, rfl⟩
  obtain ⟨xo, xcap, hsv⟩ := hx.rd.slice
  refine calls_go 4000 okT Try.func91 rfl (rs := [.tmp 4]) rfl Try.ntmps91 (args := [.pointer (some ⟨rp, 0, none⟩), .agg (stpC x).toArray]) ?_
  simp (maxSteps := 1000000) (disch := first | omega | (simp only [sizeAlloc, sizeDrew, sizeSet, sizePut] <;> omega) | fail) only [GS, TT_eq, TTl, Nat.reduceAdd, Nat.reduceMul, Nat.reduceSub, Nat.reduceDiv, Nat.reduceMod, Nat.reducePow, Nat.reduceEqDiff, ↓reduceIte, reduceCtorEq, Int.reduceToNat, Int.reduceAdd, Int.reduceSub, Int.reduceMul, st0, st1, st2, st3, st4, st5, st6]
  generalize w.alloc _ = w1 at *
  generalize w.heap.size = bx at *
  refine hold_draw okT (rs := [.tmp 4]) rfl [0, 0, 2, 6, 14, 0, 32, 126, 254, 0, 512, 1536, 3584, 0, 8192, 32256, 65024, 131070, 262142, 262142, 1048575, 2097151] [0, 1, 2, 3, 4, 5, 6, 7, 8, 9, 10, 11, 12, 13, 14, 15, 16, 17, 18, 19, 20, 21] (by kernel_rfl) (by kernel_rfl) ?_
  have F := F.mod (Mod.drewN 1 (Mod.refl [] _))
  have hM := hM.drewN 1
  generalize World.drewN _ 1 = w2 at F hM ⊢
  obtain ⟨b1, o1, c1, e1, f1⟩ := rdAt rfl F.run.rl ha0 ha1
  rw [Value.slice.injEq] at e1
  obtain ⟨rfl, -, -⟩ := e1
  obtain ⟨b2, o2, c2, e2, f2⟩ := rdAt rfl F.run.rl hb0 hb1
  rw [Value.slice.injEq] at e2
  obtain ⟨e2', -, -⟩ := e2
  simp only [Option.some.injEq, Addr.mk.injEq, and_true] at e2'
  obtain ⟨rfl, rfl⟩ := e2'
  simp (maxSteps := 1000000) (disch := first | omega | (simp only [sizeAlloc, sizeDrew, sizeSet, sizePut] <;> omega) | fail) only [GS, TT_eq, TTl, Nat.reduceAdd, Nat.reduceMul, Nat.reduceSub, Nat.reduceDiv, Nat.reduceMod, Nat.reducePow, Nat.reduceEqDiff, ↓reduceIte, reduceCtorEq, Int.reduceToNat, Int.reduceAdd, Int.reduceSub, Int.reduceMul, F.r1, F.ca, f1, F.cb, f2]
  refine ⟨fok101, tMac_cps _ _ (by have := h.len (atL_mem ha0 ha1); omega) (by have := h.len (atL_mem hb0 hb1); omega) _ _ fun w3 hN => .inl ⟨_, rfl, hold_dops okT (rs := [.tmp 4]) rfl ?_⟩⟩
  have F := F.mod hN
  have hM := hM.trans hN (by simp)
  unfold macD at hR
  generalize madeS [109] [atL l x.a, atL l x.b] = X at hR ⊢
  obtain ⟨t, e⟩ := X
  unfold stV
  simp (maxSteps := 1000000) (disch := first | omega | (simp only [sizeAlloc, sizeDrew, sizeSet, sizePut] <;> omega) | fail) only [GS, TT_eq, TTl, Nat.reduceAdd, Nat.reduceMul, Nat.reduceSub, Nat.reduceDiv, Nat.reduceMod, Nat.reducePow, Nat.reduceEqDiff, ↓reduceIte, reduceCtorEq, Int.reduceToNat, Int.reduceAdd, Int.reduceSub, Int.reduceMul]
  refine ⟨fok98, fMade_cps rp _ _ _ _ l.length _ _ F.run.hp hsl ?_⟩
  specialize hR _ hM
  unfold endD at hR ⊢
  by_cases hz5 : (mk5 (t, e)).2 = 0
  · rw [if_pos hz5] at hR ⊢
    refine .inl ⟨_, rfl, hold_dops okT (rs := [.tmp 4]) rfl ?_⟩
    simp (maxSteps := 1000000) (disch := first | omega | (simp only [sizeAlloc, sizeDrew, sizeSet, sizePut] <;> omega) | fail) only [GS, TT_eq, TTl, Nat.reduceAdd, Nat.reduceMul, Nat.reduceSub, Nat.reduceDiv, Nat.reduceMod, Nat.reducePow, Nat.reduceEqDiff, ↓reduceIte, reduceCtorEq, Int.reduceToNat, Int.reduceAdd, Int.reduceSub, Int.reduceMul]
    exact hR
  · rw [if_neg hz5] at hR ⊢
    refine .inr ⟨_, rfl, fun fs' => hold_ex okT (rs := [.tmp 4]) rfl ?_⟩
    simp (maxSteps := 1000000) (disch := first | omega | (simp only [sizeAlloc, sizeDrew, sizeSet, sizePut] <;> omega) | fail) only [GS, TT_eq, TTl, Nat.reduceAdd, Nat.reduceMul, Nat.reduceSub, Nat.reduceDiv, Nat.reduceMod, Nat.reducePow, Nat.reduceEqDiff, ↓reduceIte, reduceCtorEq, Int.reduceToNat, Int.reduceAdd, Int.reduceSub, Int.reduceMul]
    exact hR
set_option maxRecDepth 20000 in
set_option maxHeartbeats 4000000 in
theorem fSeal_cps (rp : Nat) (sv lv : Value) (seen l : List (List UInt8)) (x : Stp) (w : World) (R : Ending → World → Prop) (h : RunOk w rp sv lv seen l) (hx : StpIn w x) (ha0 : 0 ≤ x.a) (ha1 : x.a < l.length) (hb0 : 0 ≤ x.b) (hb1 : x.b < l.length) (hc0 : 0 ≤ x.c) (hc1 : x.c < l.length) (hR : ∀ w', Mod [] w w' → R (endD l.length (sealD l x)) w') :
    Calls Try.prog 92 #[.pointer (some ⟨rp, 0, none⟩), .agg (stpC x).toArray] w R := by
  have hM := (Mod.refl [] w).alloc (.cells (stpC x).toArray 55)
  have F : FX (w.alloc (.cells (stpC x).toArray 55)) w.heap.size rp sv lv seen l x := ⟨h.mod hM, hx.mod hM (by simp), heapNew⟩
  have hz := ltOf h.hp
  obtain ⟨la, lc, rfl⟩ := h.rl.slice
  obtain ⟨sa, sc, rfl⟩ := h.rs.slice
  have hsl : ∃ a c, (Value.slice la l.length lc) = .slice a l.length c := ⟨_, _, rfl⟩
  obtain ⟨xo, xcap, hsv⟩ := hx.rd.slice
  refine calls_go 4000 okT Try.func92 rfl (rs := [.tmp 4]) rfl Try.ntmps92 (args := [.pointer (some ⟨rp, 0, none⟩), .agg (stpC x).toArray]) ?_
  simp (maxSteps := 1000000) (disch := first | omega | (simp only [sizeAlloc, sizeDrew, sizeSet, sizePut] <;> omega) | fail) only [GS, TT_eq, TTl, Nat.reduceAdd, Nat.reduceMul, Nat.reduceSub, Nat.reduceDiv, Nat.reduceMod, Nat.reducePow, Nat.reduceEqDiff, ↓reduceIte, reduceCtorEq, Int.reduceToNat, Int.reduceAdd, Int.reduceSub, Int.reduceMul, st0, st1, st2, st3, st4, st5, st6]
  generalize w.alloc _ = w1 at *
  generalize w.heap.size = bx at *
  refine hold_draw okT (rs := [.tmp 4]) rfl [0, 0, 2, 6, 14, 0, 32, 126, 254, 0, 512, 1536, 3584, 0, 8192, 32256, 65024, 0, 131072, 393216, 917504, 0, 2097152, 8257536, 16646144, 33554430, 67108862, 67108862, 268435455, 536870911] [0, 1, 2, 3, 4, 5, 6, 7, 8, 9, 10, 11, 12, 13, 14, 15, 16, 17, 18, 19, 20, 21, 22, 23, 24, 25, 26, 27, 28, 29] (by kernel_rfl) (by kernel_rfl) ?_
  have F := F.mod (Mod.drewN 1 (Mod.refl [] _))
  have hM := hM.drewN 1
  generalize World.drewN _ 1 = w2 at F hM ⊢
  obtain ⟨b1, o1, c1, e1, f1⟩ := rdAt rfl F.run.rl ha0 ha1
  rw [Value.slice.injEq] at e1
  obtain ⟨rfl, -, -⟩ := e1
  obtain ⟨b2, o2, c2, e2, f2⟩ := rdAt rfl F.run.rl hb0 hb1
  rw [Value.slice.injEq] at e2
  obtain ⟨e2', -, -⟩ := e2
  simp only [Option.some.injEq, Addr.mk.injEq, and_true] at e2'
  obtain ⟨rfl, rfl⟩ := e2'
  obtain ⟨b3, o3, c3, e3, f3⟩ := rdAt rfl F.run.rl hc0 hc1
  rw [Value.slice.injEq] at e3
  obtain ⟨e3', -, -⟩ := e3
  simp only [Option.some.injEq, Addr.mk.injEq, and_true] at e3'
  obtain ⟨rfl, rfl⟩ := e3'
  simp (maxSteps := 1000000) (disch := first | omega | (simp only [sizeAlloc, sizeDrew, sizeSet, sizePut] <;> omega) | fail) only [GS, TT_eq, TTl, Nat.reduceAdd, Nat.reduceMul, Nat.reduceSub, Nat.reduceDiv, Nat.reduceMod, Nat.reducePow, Nat.reduceEqDiff, ↓reduceIte, reduceCtorEq, Int.reduceToNat, Int.reduceAdd, Int.reduceSub, Int.reduceMul, F.r1, F.ca, f1, F.cb, f2, F.cc, f3]
  refine ⟨fok31, tSeal_cps _ _ _ (by have := h.len (atL_mem ha0 ha1); omega) (by have := h.len (atL_mem hb0 hb1); omega) (by have := h.len (atL_mem hc0 hc1); omega) _ _ fun w3 hN => .inl ⟨_, rfl, hold_dops okT (rs := [.tmp 4]) rfl ?_⟩⟩
  have F := F.mod hN
  have hM := hM.trans hN (by simp)
  unfold sealD at hR
  generalize madeS [115] [atL l x.a, atL l x.b, atL l x.c] = X at hR ⊢
  obtain ⟨t, e⟩ := X
  unfold stV
  simp (maxSteps := 1000000) (disch := first | omega | (simp only [sizeAlloc, sizeDrew, sizeSet, sizePut] <;> omega) | fail) only [GS, TT_eq, TTl, Nat.reduceAdd, Nat.reduceMul, Nat.reduceSub, Nat.reduceDiv, Nat.reduceMod, Nat.reducePow, Nat.reduceEqDiff, ↓reduceIte, reduceCtorEq, Int.reduceToNat, Int.reduceAdd, Int.reduceSub, Int.reduceMul]
  refine ⟨fok98, fMade_cps rp _ _ _ _ l.length _ _ F.run.hp hsl ?_⟩
  specialize hR _ hM
  unfold endD at hR ⊢
  by_cases hz5 : (mk5 (t, e)).2 = 0
  · rw [if_pos hz5] at hR ⊢
    refine .inl ⟨_, rfl, hold_dops okT (rs := [.tmp 4]) rfl ?_⟩
    simp (maxSteps := 1000000) (disch := first | omega | (simp only [sizeAlloc, sizeDrew, sizeSet, sizePut] <;> omega) | fail) only [GS, TT_eq, TTl, Nat.reduceAdd, Nat.reduceMul, Nat.reduceSub, Nat.reduceDiv, Nat.reduceMod, Nat.reducePow, Nat.reduceEqDiff, ↓reduceIte, reduceCtorEq, Int.reduceToNat, Int.reduceAdd, Int.reduceSub, Int.reduceMul]
    exact hR
  · rw [if_neg hz5] at hR ⊢
    refine .inr ⟨_, rfl, fun fs' => hold_ex okT (rs := [.tmp 4]) rfl ?_⟩
    simp (maxSteps := 1000000) (disch := first | omega | (simp only [sizeAlloc, sizeDrew, sizeSet, sizePut] <;> omega) | fail) only [GS, TT_eq, TTl, Nat.reduceAdd, Nat.reduceMul, Nat.reduceSub, Nat.reduceDiv, Nat.reduceMod, Nat.reducePow, Nat.reduceEqDiff, ↓reduceIte, reduceCtorEq, Int.reduceToNat, Int.reduceAdd, Int.reduceSub, Int.reduceMul]
    exact hR
set_option maxRecDepth 20000 in
set_option maxHeartbeats 4000000 in
theorem fParts_cps (k : Nat) (hk : k < 256) (rp : Nat) (sv lv : Value) (seen l : List (List UInt8)) (x : Stp) (w : World) (R : Ending → World → Prop) (h : RunOk w rp sv lv seen l) (hx : StpIn w x) (ha0 : 0 ≤ x.a) (ha1 : x.a < l.length)
    (h0 : kindS (atL l x.a) ≠ k → ∀ w', Mod [] w w' → R (.panicked (wrF l.length 8)) w')
    (hR : kindS (atL l x.a) = k → ∀ pv w', w'.ownsRow w.heap.size 9 1 pv (partsD l x).length ((partsD l x).map strV) → Mod [] w w' → R (.returned pv) w') :
    Calls Try.prog 99 #[.pointer (some ⟨rp, 0, none⟩), .int .u8 k, .agg (stpC x).toArray] w R := by
  have hM := (Mod.refl [] w).alloc (.cells (stpC x).toArray 55)
  have F : FX (w.alloc (.cells (stpC x).toArray 55)) w.heap.size rp sv lv seen l x := ⟨h.mod hM, hx.mod hM (by simp), heapNew⟩
  have hz := ltOf h.hp
  obtain ⟨la, lc, rfl⟩ := h.rl.slice
  obtain ⟨sa, sc, rfl⟩ := h.rs.slice
  have hsl : ∃ a c, (Value.slice la l.length lc) = .slice a l.length c := ⟨_, _, rfl⟩
  have hlen := h.len (atL_mem ha0 ha1)
  have hval := h.hl _ (atL_mem ha0 ha1)
  have hml : (atL l x.a).length ≤ maxLen := by unfold maxLen; omega
  have hw1 := sizeAlloc (w := w) (o := .cells (stpC x).toArray 55)
  obtain ⟨b1, o1, c1, e1, f1⟩ := rdAt rfl h.rl ha0 ha1
  rw [Value.slice.injEq] at e1
  obtain ⟨rfl, -, -⟩ := e1
  have hb1 := World.block_lt_of_cell? w _ f1
  simp only at hb1
  have r1 : w.cell? ⟨rp, 1, none⟩ = some (.slice (some ⟨b1, o1, none⟩) l.length lc) := by rw [cellOf h.hp]; rfl
  refine calls_go 4000 okT Try.func99 rfl (rs := [.tmp 6]) rfl Try.ntmps99 (args := [.pointer (some ⟨rp, 0, none⟩), .int .u8 k, .agg (stpC x).toArray]) ?_
  simp (maxSteps := 1000000) (disch := first | omega | (simp only [sizeAlloc, sizeDrew, sizeSet, sizePut] <;> omega) | fail) only [GS, TT_eq, TTl, Nat.reduceAdd, Nat.reduceMul, Nat.reduceSub, Nat.reduceDiv, Nat.reduceMod, Nat.reducePow, Nat.reduceEqDiff, ↓reduceIte, reduceCtorEq, Int.reduceToNat, Int.reduceAdd, Int.reduceSub, Int.reduceMul, st0, st1, st2, st3, st4, st5, st6, r1, f1]
  generalize w.alloc _ = w1 at *
  generalize hB : w.heap.size = bx at *
  refine ⟨by kernel_rfl, fun m => ?_⟩
  have F := F.mod (Mod.drewN m (Mod.refl [] _))
  have hM := hM.drewN m
  have hz2 : (w1.drewN m).heap.size = bx + 1 := hw1
  generalize w1.drewN m = w2 at F hM hz2 ⊢
  refine ⟨fok26, tKind_cps _ hml _ _ fun w3 hN => .inl ⟨_, rfl, hold_ops okT (rs := [.tmp 6]) rfl ?_⟩⟩
  have F := F.mod hN
  have hM := hM.trans hN (by simp)
  have hz3 := hN.size
  by_cases hkk : kindS (atL l x.a) = k
  · rw [hkk]
    simp (maxSteps := 1000000) (disch := first | omega | (simp only [sizeAlloc, sizeDrew, sizeSet, sizePut] <;> omega) | fail) only [GS, TT_eq, TTl, Nat.reduceAdd, Nat.reduceMul, Nat.reduceSub, Nat.reduceDiv, Nat.reduceMod, Nat.reducePow, Nat.reduceEqDiff, ↓reduceIte, reduceCtorEq, Int.reduceToNat, Int.reduceAdd, Int.reduceSub, Int.reduceMul]
    refine ⟨fok76, fMust_cps rp true 8 _ _ l.length _ _ F.run.hp hsl (fun _ => .inl ⟨_, rfl, hold_ops okT (rs := [.tmp 6]) rfl ?_⟩) (fun h => absurd h (by simp))⟩
    simp (maxSteps := 1000000) (disch := first | omega | (simp only [sizeAlloc, sizeDrew, sizeSet, sizePut] <;> omega) | fail) only [GS, TT_eq, TTl, Nat.reduceAdd, Nat.reduceMul, Nat.reduceSub, Nat.reduceDiv, Nat.reduceMod, Nat.reducePow, Nat.reduceEqDiff, ↓reduceIte, reduceCtorEq, Int.reduceToNat, Int.reduceAdd, Int.reduceSub, Int.reduceMul]
    refine ⟨fok57, tParts_cps _ hml _ _ (fun hc => absurd hval hc) (fun _ pv w4 hown hN2 => .inl ⟨_, rfl, hold_ops okT (rs := [.tmp 6]) rfl ?_⟩)⟩
    simp (maxSteps := 1000000) (disch := first | omega | (simp only [sizeAlloc, sizeDrew, sizeSet, sizePut] <;> omega) | fail) only [GS, TT_eq, TTl, Nat.reduceAdd, Nat.reduceMul, Nat.reduceSub, Nat.reduceDiv, Nat.reduceMod, Nat.reducePow, Nat.reduceEqDiff, ↓reduceIte, reduceCtorEq, Int.reduceToNat, Int.reduceAdd, Int.reduceSub, Int.reduceMul]
    exact hR hkk _ _ (ownsRow_base hown (by omega)) (hM.trans hN2 (by simp))
  · have hk6 : (kindS (atL l x.a) : Int) ≠ (k : Int) := by omega
    simp (maxSteps := 1000000) (disch := first | omega | (simp only [sizeAlloc, sizeDrew, sizeSet, sizePut] <;> omega) | fail) only [GS, TT_eq, TTl, Nat.reduceAdd, Nat.reduceMul, Nat.reduceSub, Nat.reduceDiv, Nat.reduceMod, Nat.reducePow, Nat.reduceEqDiff, ↓reduceIte, reduceCtorEq, Int.reduceToNat, Int.reduceAdd, Int.reduceSub, Int.reduceMul, hk6]
    refine ⟨fok76, fMust_cps rp false 8 _ _ l.length _ _ F.run.hp hsl (fun h => absurd h (by simp)) (fun _ => .inr ⟨_, rfl, hold_ex okT (rs := [.tmp 6]) rfl ?_⟩)⟩
    simp (maxSteps := 1000000) (disch := first | omega | (simp only [sizeAlloc, sizeDrew, sizeSet, sizePut] <;> omega) | fail) only [GS, TT_eq, TTl, Nat.reduceAdd, Nat.reduceMul, Nat.reduceSub, Nat.reduceDiv, Nat.reduceMod, Nat.reducePow, Nat.reduceEqDiff, ↓reduceIte, reduceCtorEq, Int.reduceToNat, Int.reduceAdd, Int.reduceSub, Int.reduceMul]
    exact h0 hkk _ hM
set_option maxRecDepth 20000 in
set_option maxHeartbeats 4000000 in
theorem fPart_cps (rp : Nat) (sv lv : Value) (seen l : List (List UInt8)) (x : Stp) (w : World) (R : Ending → World → Prop) (h : RunOk w rp sv lv seen l) (hx : StpIn w x) (ha0 : 0 ≤ x.a) (ha1 : x.a < l.length) (hR : ∀ w', Mod [] w w' → R (endD l.length (partD l x)) w') :
    Calls Try.prog 86 #[.pointer (some ⟨rp, 0, none⟩), .agg (stpC x).toArray] w R := by
  have hM := (Mod.refl [] w).alloc (.cells (stpC x).toArray 55)
  have F : FX (w.alloc (.cells (stpC x).toArray 55)) w.heap.size rp sv lv seen l x := ⟨h.mod hM, hx.mod hM (by simp), heapNew⟩
  have hz := ltOf h.hp
  obtain ⟨la, lc, rfl⟩ := h.rl.slice
  obtain ⟨sa, sc, rfl⟩ := h.rs.slice
  have hsl : ∃ a c, (Value.slice la l.length lc) = .slice a l.length c := ⟨_, _, rfl⟩
  obtain ⟨xo, xcap, hsv⟩ := hx.rd.slice
  refine calls_go 4000 okT Try.func86 rfl (rs := [.tmp 4]) rfl Try.ntmps86 (args := [.pointer (some ⟨rp, 0, none⟩), .agg (stpC x).toArray]) ?_
  simp (maxSteps := 1000000) (disch := first | omega | (simp only [sizeAlloc, sizeDrew, sizeSet, sizePut] <;> omega) | fail) only [GS, TT_eq, TTl, Nat.reduceAdd, Nat.reduceMul, Nat.reduceSub, Nat.reduceDiv, Nat.reduceMod, Nat.reducePow, Nat.reduceEqDiff, ↓reduceIte, reduceCtorEq, Int.reduceToNat, Int.reduceAdd, Int.reduceSub, Int.reduceMul, st0, st1, st2, st3, st4, st5, st6]
  generalize w.alloc _ = w1 at *
  generalize w.heap.size = bx at *
  unfold partD endD at hR
  refine ⟨fok99, fParts_cps 3 (by omega) rp _ _ seen l x _ _ F.run F.inp ha0 ha1 (fun hk w2 hN => .inr ⟨_, rfl, hold_ex okT (rs := [.tmp 4]) rfl ?_⟩) (fun hk pv w2 hown hN => .inl ⟨_, rfl, hold_ops okT (rs := [.tmp 4]) rfl ?_⟩)⟩
  · have hM := hM.trans hN (by simp)
    rw [if_neg hk] at hR
    simp (maxSteps := 1000000) (disch := first | omega | (simp only [sizeAlloc, sizeDrew, sizeSet, sizePut] <;> omega) | fail) only [GS, TT_eq, TTl, Nat.reduceAdd, Nat.reduceMul, Nat.reduceSub, Nat.reduceDiv, Nat.reduceMod, Nat.reducePow, Nat.reduceEqDiff, ↓reduceIte, reduceCtorEq, Int.reduceToNat, Int.reduceAdd, Int.reduceSub, Int.reduceMul]
    exact hR _ hM
  · have F := F.mod hN
    have hM := hM.trans hN (by simp)
    rw [if_pos hk] at hR
    have hrp := Rd.own hown
    have hpl : (partsD l x).length ≤ 16384 := by
      have h1 := partsS_len (atL l x.a)
      have h2 := h.len (atL_mem ha0 ha1)
      unfold partsD; omega
    obtain ⟨pa, pc, rfl⟩ := hrp.slice
    simp (maxSteps := 1000000) (disch := first | omega | (simp only [sizeAlloc, sizeDrew, sizeSet, sizePut] <;> omega) | fail) only [GS, TT_eq, TTl, Nat.reduceAdd, Nat.reduceMul, Nat.reduceSub, Nat.reduceDiv, Nat.reduceMod, Nat.reducePow, Nat.reduceEqDiff, ↓reduceIte, reduceCtorEq, Int.reduceToNat, Int.reduceAdd, Int.reduceSub, Int.reduceMul]
    by_cases hn : 0 ≤ x.n ∧ x.n < (partsD l x).length
    · rw [if_pos hn] at hR
      obtain ⟨hn0, hn1⟩ := hn
      obtain ⟨b1, o1, c1, e1, f1⟩ := rdAt rfl hrp hn0 hn1
      rw [Value.slice.injEq] at e1
      obtain ⟨rfl, -, -⟩ := e1
      simp (maxSteps := 1000000) (disch := first | omega | (simp only [sizeAlloc, sizeDrew, sizeSet, sizePut] <;> omega) | fail) only [GS, TT_eq, TTl, Nat.reduceAdd, Nat.reduceMul, Nat.reduceSub, Nat.reduceDiv, Nat.reduceMod, Nat.reducePow, Nat.reduceEqDiff, ↓reduceIte, reduceCtorEq, Int.reduceToNat, Int.reduceAdd, Int.reduceSub, Int.reduceMul, F.cn]
      refine ⟨fok76, fMust_cps rp true 3 _ _ l.length _ _ F.run.hp hsl (fun _ => .inl ⟨_, rfl, hold_ops okT (rs := [.tmp 4]) rfl ?_⟩) (fun h => absurd h (by simp))⟩
      simp (maxSteps := 1000000) (disch := first | omega | (simp only [sizeAlloc, sizeDrew, sizeSet, sizePut] <;> omega) | fail) only [GS, TT_eq, TTl, Nat.reduceAdd, Nat.reduceMul, Nat.reduceSub, Nat.reduceDiv, Nat.reduceMod, Nat.reducePow, Nat.reduceEqDiff, ↓reduceIte, reduceCtorEq, Int.reduceToNat, Int.reduceAdd, Int.reduceSub, Int.reduceMul, F.cn, f1]
      exact hR _ hM
    · rw [if_neg hn] at hR
      by_cases hn0 : 0 ≤ x.n
      · simp (maxSteps := 1000000) (disch := first | omega | (simp only [sizeAlloc, sizeDrew, sizeSet, sizePut] <;> omega) | fail) only [GS, TT_eq, TTl, Nat.reduceAdd, Nat.reduceMul, Nat.reduceSub, Nat.reduceDiv, Nat.reduceMod, Nat.reducePow, Nat.reduceEqDiff, ↓reduceIte, reduceCtorEq, Int.reduceToNat, Int.reduceAdd, Int.reduceSub, Int.reduceMul, F.cn]
        refine ⟨fok76, fMust_cps rp false 3 _ _ l.length _ _ F.run.hp hsl (fun h => absurd h (by simp)) (fun _ => .inr ⟨_, rfl, hold_ex okT (rs := [.tmp 4]) rfl ?_⟩)⟩
        simp (maxSteps := 1000000) (disch := first | omega | (simp only [sizeAlloc, sizeDrew, sizeSet, sizePut] <;> omega) | fail) only [GS, TT_eq, TTl, Nat.reduceAdd, Nat.reduceMul, Nat.reduceSub, Nat.reduceDiv, Nat.reduceMod, Nat.reducePow, Nat.reduceEqDiff, ↓reduceIte, reduceCtorEq, Int.reduceToNat, Int.reduceAdd, Int.reduceSub, Int.reduceMul]
        exact hR _ hM
      · simp (maxSteps := 1000000) (disch := first | omega | (simp only [sizeAlloc, sizeDrew, sizeSet, sizePut] <;> omega) | fail) only [GS, TT_eq, TTl, Nat.reduceAdd, Nat.reduceMul, Nat.reduceSub, Nat.reduceDiv, Nat.reduceMod, Nat.reducePow, Nat.reduceEqDiff, ↓reduceIte, reduceCtorEq, Int.reduceToNat, Int.reduceAdd, Int.reduceSub, Int.reduceMul, F.cn]
        refine ⟨fok76, fMust_cps rp false 3 _ _ l.length _ _ F.run.hp hsl (fun h => absurd h (by simp)) (fun _ => .inr ⟨_, rfl, hold_ex okT (rs := [.tmp 4]) rfl ?_⟩)⟩
        simp (maxSteps := 1000000) (disch := first | omega | (simp only [sizeAlloc, sizeDrew, sizeSet, sizePut] <;> omega) | fail) only [GS, TT_eq, TTl, Nat.reduceAdd, Nat.reduceMul, Nat.reduceSub, Nat.reduceDiv, Nat.reduceMod, Nat.reducePow, Nat.reduceEqDiff, ↓reduceIte, reduceCtorEq, Int.reduceToNat, Int.reduceAdd, Int.reduceSub, Int.reduceMul]
        exact hR _ hM
set_option maxRecDepth 20000 in
set_option maxHeartbeats 4000000 in
theorem fNonce_cps (rp : Nat) (sv lv : Value) (seen l : List (List UInt8)) (x : Stp) (w : World) (R : Ending → World → Prop) (h : RunOk w rp sv lv seen l) (hx : StpIn w x) (ha0 : 0 ≤ x.a) (ha1 : x.a < l.length) (hR : ∀ w', Mod [] w w' → R (endD l.length (nonceD l x)) w') :
    Calls Try.prog 87 #[.pointer (some ⟨rp, 0, none⟩), .agg (stpC x).toArray] w R := by
  have hM := (Mod.refl [] w).alloc (.cells (stpC x).toArray 55)
  have F : FX (w.alloc (.cells (stpC x).toArray 55)) w.heap.size rp sv lv seen l x := ⟨h.mod hM, hx.mod hM (by simp), heapNew⟩
  have hz := ltOf h.hp
  obtain ⟨la, lc, rfl⟩ := h.rl.slice
  obtain ⟨sa, sc, rfl⟩ := h.rs.slice
  have hsl : ∃ a c, (Value.slice la l.length lc) = .slice a l.length c := ⟨_, _, rfl⟩
  obtain ⟨xo, xcap, hsv⟩ := hx.rd.slice
  refine calls_go 4000 okT Try.func87 rfl (rs := [.tmp 4]) rfl Try.ntmps87 (args := [.pointer (some ⟨rp, 0, none⟩), .agg (stpC x).toArray]) ?_
  simp (maxSteps := 1000000) (disch := first | omega | (simp only [sizeAlloc, sizeDrew, sizeSet, sizePut] <;> omega) | fail) only [GS, TT_eq, TTl, Nat.reduceAdd, Nat.reduceMul, Nat.reduceSub, Nat.reduceDiv, Nat.reduceMod, Nat.reducePow, Nat.reduceEqDiff, ↓reduceIte, reduceCtorEq, Int.reduceToNat, Int.reduceAdd, Int.reduceSub, Int.reduceMul, st0, st1, st2, st3, st4, st5, st6]
  generalize w.alloc _ = w1 at *
  generalize w.heap.size = bx at *
  unfold nonceD endD at hR
  refine ⟨fok99, fParts_cps 6 (by omega) rp _ _ seen l x _ _ F.run F.inp ha0 ha1 (fun hk w2 hN => .inr ⟨_, rfl, hold_ex okT (rs := [.tmp 4]) rfl ?_⟩) (fun hk pv w2 hown hN => .inl ⟨_, rfl, hold_ops okT (rs := [.tmp 4]) rfl ?_⟩)⟩
  · have hM := hM.trans hN (by simp)
    rw [if_neg hk] at hR
    simp (maxSteps := 1000000) (disch := first | omega | (simp only [sizeAlloc, sizeDrew, sizeSet, sizePut] <;> omega) | fail) only [GS, TT_eq, TTl, Nat.reduceAdd, Nat.reduceMul, Nat.reduceSub, Nat.reduceDiv, Nat.reduceMod, Nat.reducePow, Nat.reduceEqDiff, ↓reduceIte, reduceCtorEq, Int.reduceToNat, Int.reduceAdd, Int.reduceSub, Int.reduceMul]
    exact hR _ hM
  · have F := F.mod hN
    have hM := hM.trans hN (by simp)
    rw [if_pos hk] at hR
    have hrp := Rd.own hown
    have hpl : (partsD l x).length ≤ 16384 := by
      have h1 := partsS_len (atL l x.a)
      have h2 := h.len (atL_mem ha0 ha1)
      unfold partsD; omega
    have hp3 : (partsD l x).length = 3 := by
      have ho := opens_plain (h.hl _ (atL_mem ha0 ha1))
      rcases ho with ⟨g, _⟩ | ⟨g, _⟩ | ⟨g, _⟩ | ⟨g, _⟩ | ⟨g, _⟩ | ⟨_, _, a, b, c, g, _⟩ <;> first | (rw [hk] at g; exact absurd g (by decide)) | (unfold partsD; rw [g]; rfl)
    obtain ⟨b1, o1, c1, e1, f1⟩ := rdAt rfl hrp (i := 1) (by omega) (by omega)
    subst e1
    have f1 : w2.cell? ⟨b1, o1 + 1, none⟩ = some (.string ⟨(atL (partsD l x) 1).toArray⟩) := f1
    simp (maxSteps := 1000000) (disch := first | omega | (simp only [sizeAlloc, sizeDrew, sizeSet, sizePut] <;> omega) | fail) only [GS, TT_eq, TTl, Nat.reduceAdd, Nat.reduceMul, Nat.reduceSub, Nat.reduceDiv, Nat.reduceMod, Nat.reducePow, Nat.reduceEqDiff, ↓reduceIte, reduceCtorEq, Int.reduceToNat, Int.reduceAdd, Int.reduceSub, Int.reduceMul, f1]
    exact hR _ hM
set_option maxRecDepth 20000 in
set_option maxHeartbeats 4000000 in
theorem fBody_cps (rp : Nat) (sv lv : Value) (seen l : List (List UInt8)) (x : Stp) (w : World) (R : Ending → World → Prop) (h : RunOk w rp sv lv seen l) (hx : StpIn w x) (ha0 : 0 ≤ x.a) (ha1 : x.a < l.length) (hb0 : 0 ≤ x.b) (hb1 : x.b < l.length) (hR : ∀ w', Mod [] w w' → R (endD l.length (bodyD l x)) w') :
    Calls Try.prog 88 #[.pointer (some ⟨rp, 0, none⟩), .agg (stpC x).toArray] w R := by
  have hM := (Mod.refl [] w).alloc (.cells (stpC x).toArray 55)
  have F : FX (w.alloc (.cells (stpC x).toArray 55)) w.heap.size rp sv lv seen l x := ⟨h.mod hM, hx.mod hM (by simp), heapNew⟩
  have hz := ltOf h.hp
  obtain ⟨la, lc, rfl⟩ := h.rl.slice
  obtain ⟨sa, sc, rfl⟩ := h.rs.slice
  have hsl : ∃ a c, (Value.slice la l.length lc) = .slice a l.length c := ⟨_, _, rfl⟩
  obtain ⟨xo, xcap, hsv⟩ := hx.rd.slice
  refine calls_go 4000 okT Try.func88 rfl (rs := [.tmp 4]) rfl Try.ntmps88 (args := [.pointer (some ⟨rp, 0, none⟩), .agg (stpC x).toArray]) ?_
  simp (maxSteps := 1000000) (disch := first | omega | (simp only [sizeAlloc, sizeDrew, sizeSet, sizePut] <;> omega) | fail) only [GS, TT_eq, TTl, Nat.reduceAdd, Nat.reduceMul, Nat.reduceSub, Nat.reduceDiv, Nat.reduceMod, Nat.reducePow, Nat.reduceEqDiff, ↓reduceIte, reduceCtorEq, Int.reduceToNat, Int.reduceAdd, Int.reduceSub, Int.reduceMul, st0, st1, st2, st3, st4, st5, st6]
  generalize w.alloc _ = w1 at *
  generalize w.heap.size = bx at *
  unfold bodyD endD at hR
  refine ⟨fok99, fParts_cps 6 (by omega) rp _ _ seen l x _ _ F.run F.inp ha0 ha1 (fun hk w2 hN => .inr ⟨_, rfl, hold_ex okT (rs := [.tmp 4]) rfl ?_⟩) (fun hk pv w2 hown hN => .inl ⟨_, rfl, hold_ops okT (rs := [.tmp 4]) rfl ?_⟩)⟩
  · have hM := hM.trans hN (by simp)
    rw [if_neg hk] at hR
    simp (maxSteps := 1000000) (disch := first | omega | (simp only [sizeAlloc, sizeDrew, sizeSet, sizePut] <;> omega) | fail) only [GS, TT_eq, TTl, Nat.reduceAdd, Nat.reduceMul, Nat.reduceSub, Nat.reduceDiv, Nat.reduceMod, Nat.reducePow, Nat.reduceEqDiff, ↓reduceIte, reduceCtorEq, Int.reduceToNat, Int.reduceAdd, Int.reduceSub, Int.reduceMul]
    exact hR _ hM
  · have F := F.mod hN
    have hM := hM.trans hN (by simp)
    rw [if_pos hk] at hR
    have hrp := Rd.own hown
    have hpl : (partsD l x).length ≤ 16384 := by
      have h1 := partsS_len (atL l x.a)
      have h2 := h.len (atL_mem ha0 ha1)
      unfold partsD; omega
    have hp3 : (partsD l x).length = 3 := by
      have ho := opens_plain (h.hl _ (atL_mem ha0 ha1))
      rcases ho with ⟨g, _⟩ | ⟨g, _⟩ | ⟨g, _⟩ | ⟨g, _⟩ | ⟨g, _⟩ | ⟨_, _, a, b, c, g, _⟩ <;> first | (rw [hk] at g; exact absurd g (by decide)) | (unfold partsD; rw [g]; rfl)
    obtain ⟨b1, o1, c1, e1, f0⟩ := rdAt rfl hrp (i := 0) (by omega) (by omega)
    obtain ⟨b2, o2, c2, e2, f2⟩ := rdAt rfl hrp (i := 2) (by omega) (by omega)
    subst e1
    rw [Value.slice.injEq] at e2
    obtain ⟨e2', -, -⟩ := e2
    simp only [Option.some.injEq, Addr.mk.injEq, and_true] at e2'
    obtain ⟨rfl, rfl⟩ := e2'
    have hrp' := hrp
    simp (maxSteps := 1000000) (disch := first | omega | (simp only [sizeAlloc, sizeDrew, sizeSet, sizePut] <;> omega) | fail) only [GS, TT_eq, TTl, Nat.reduceAdd, Nat.reduceMul, Nat.reduceSub, Nat.reduceDiv, Nat.reduceMod, Nat.reducePow, Nat.reduceEqDiff, ↓reduceIte, reduceCtorEq, Int.reduceToNat, Int.reduceAdd, Int.reduceSub, Int.reduceMul]
    refine hold_draw okT (rs := [.tmp 4]) rfl [0, 0, 2, 6, 0, 16, 48, 112, 0, 256, 1008, 2032, 4094, 8191] [0, 1, 2, 3, 4, 5, 6, 7, 8, 9, 10, 11, 12, 13] (by kernel_rfl) (by kernel_rfl) ?_
    have F := F.mod (Mod.drewN 1 (Mod.refl [] _))
    have hM := hM.drewN 1
    have f0 : (w2.drewN 1).cell? ⟨b1, o1, none⟩ = some (.string ⟨(atL (partsD l x) 0).toArray⟩) := f0
    have f2 : (w2.drewN 1).cell? ⟨b1, o1 + 2, none⟩ = some (.string ⟨(atL (partsD l x) 2).toArray⟩) := f2
    generalize w2.drewN 1 = w3 at F hM f0 f2 ⊢
    obtain ⟨b3, o3, c3, e3, f3⟩ := rdAt rfl F.run.rl hb0 hb1
    rw [Value.slice.injEq] at e3
    obtain ⟨rfl, -, -⟩ := e3
    by_cases hq : atL (partsD l x) 0 = atL l x.b
    · rw [if_pos hq] at hR
      simp (maxSteps := 1000000) (disch := first | omega | (simp only [sizeAlloc, sizeDrew, sizeSet, sizePut] <;> omega) | fail) only [GS, TT_eq, TTl, Nat.reduceAdd, Nat.reduceMul, Nat.reduceSub, Nat.reduceDiv, Nat.reduceMod, Nat.reducePow, Nat.reduceEqDiff, ↓reduceIte, reduceCtorEq, Int.reduceToNat, Int.reduceAdd, Int.reduceSub, Int.reduceMul, F.r1, F.cb, f0, f3, hq, eq_self]
      refine ⟨fok76, fMust_cps rp true 80 _ _ l.length _ _ F.run.hp hsl (fun _ => .inl ⟨_, rfl, hold_dops okT (rs := [.tmp 4]) rfl ?_⟩) (fun h => absurd h (by simp))⟩
      simp (maxSteps := 1000000) (disch := first | omega | (simp only [sizeAlloc, sizeDrew, sizeSet, sizePut] <;> omega) | fail) only [GS, TT_eq, TTl, Nat.reduceAdd, Nat.reduceMul, Nat.reduceSub, Nat.reduceDiv, Nat.reduceMod, Nat.reducePow, Nat.reduceEqDiff, ↓reduceIte, reduceCtorEq, Int.reduceToNat, Int.reduceAdd, Int.reduceSub, Int.reduceMul, f2]
      exact hR _ hM
    · rw [if_neg hq] at hR
      simp (maxSteps := 1000000) (disch := first | omega | (simp only [sizeAlloc, sizeDrew, sizeSet, sizePut] <;> omega) | fail) only [GS, TT_eq, TTl, Nat.reduceAdd, Nat.reduceMul, Nat.reduceSub, Nat.reduceDiv, Nat.reduceMod, Nat.reducePow, Nat.reduceEqDiff, ↓reduceIte, reduceCtorEq, Int.reduceToNat, Int.reduceAdd, Int.reduceSub, Int.reduceMul, F.r1, F.cb, f0, f3]
      refine ⟨fok76, fMust_cps rp false 80 _ _ l.length _ _ F.run.hp hsl (fun h => absurd h (by simp)) (fun _ => .inr ⟨_, rfl, fun fs' => hold_ex okT (rs := [.tmp 4]) rfl ?_⟩)⟩
      simp (maxSteps := 1000000) (disch := first | omega | (simp only [sizeAlloc, sizeDrew, sizeSet, sizePut] <;> omega) | fail) only [GS, TT_eq, TTl, Nat.reduceAdd, Nat.reduceMul, Nat.reduceSub, Nat.reduceDiv, Nat.reduceMod, Nat.reducePow, Nat.reduceEqDiff, ↓reduceIte, reduceCtorEq, Int.reduceToNat, Int.reduceAdd, Int.reduceSub, Int.reduceMul]
      exact hR _ hM
set_option maxRecDepth 20000 in
set_option maxHeartbeats 4000000 in
theorem fRow_cps (rp : Nat) (sv lv : Value) (seen l : List (List UInt8)) (x : Stp) (w : World) (R : Ending → World → Prop) (h : RunOk w rp sv lv seen l) (hx : StpIn w x) (hv : ∀ v ∈ x.list, 0 ≤ v ∧ v < l.length) (hR : ∀ w', Mod [] w w' → R (endD l.length (rowD l x)) w') :
    Calls Try.prog 89 #[.pointer (some ⟨rp, 0, none⟩), .agg (stpC x).toArray] w R := by
  have hM := (Mod.refl [] w).alloc (.cells (stpC x).toArray 55)
  have F : FX (w.alloc (.cells (stpC x).toArray 55)) w.heap.size rp sv lv seen l x := ⟨h.mod hM, hx.mod hM (by simp), heapNew⟩
  have hz := ltOf h.hp
  obtain ⟨la, lc, rfl⟩ := h.rl.slice
  obtain ⟨sa, sc, rfl⟩ := h.rs.slice
  have hsl : ∃ a c, (Value.slice la l.length lc) = .slice a l.length c := ⟨_, _, rfl⟩
  obtain ⟨xo, xcap, hsv⟩ := hx.rd.slice
  refine calls_go 4000 okT Try.func89 rfl (rs := [.tmp 4]) rfl Try.ntmps89 (args := [.pointer (some ⟨rp, 0, none⟩), .agg (stpC x).toArray]) ?_
  simp (maxSteps := 1000000) (disch := first | omega | (simp only [sizeAlloc, sizeDrew, sizeSet, sizePut] <;> omega) | fail) only [GS, TT_eq, TTl, Nat.reduceAdd, Nat.reduceMul, Nat.reduceSub, Nat.reduceDiv, Nat.reduceMod, Nat.reducePow, Nat.reduceEqDiff, ↓reduceIte, reduceCtorEq, Int.reduceToNat, Int.reduceAdd, Int.reduceSub, Int.reduceMul, st0, st1, st2, st3, st4, st5, st6]
  generalize w.alloc _ = w1 at *
  generalize w.heap.size = bx at *
  unfold rowD at hR
  have hxl := hx.len
  have cl : w1.cell? ⟨bx, 6, none⟩ = some (.slice xo x.list.length xcap) := by rw [← hsv]; exact F.cl
  by_cases h32 : x.list.length ≤ 32
  · rw [if_pos h32] at hR
    simp (maxSteps := 1000000) (disch := first | omega | (simp only [sizeAlloc, sizeDrew, sizeSet, sizePut] <;> omega) | fail) only [GS, TT_eq, TTl, Nat.reduceAdd, Nat.reduceMul, Nat.reduceSub, Nat.reduceDiv, Nat.reduceMod, Nat.reducePow, Nat.reduceEqDiff, ↓reduceIte, reduceCtorEq, Int.reduceToNat, Int.reduceAdd, Int.reduceSub, Int.reduceMul, cl, hsv]
    refine ⟨fok76, fMust_cps rp true 5 _ _ l.length _ _ F.run.hp hsl (fun _ => .inl ⟨_, rfl, hold_ops okT (rs := [.tmp 4]) rfl ?_⟩) (fun h => absurd h (by simp))⟩
    simp (maxSteps := 1000000) (disch := first | omega | (simp only [sizeAlloc, sizeDrew, sizeSet, sizePut] <;> omega) | fail) only [GS, TT_eq, TTl, Nat.reduceAdd, Nat.reduceMul, Nat.reduceSub, Nat.reduceDiv, Nat.reduceMod, Nat.reducePow, Nat.reduceEqDiff, ↓reduceIte, reduceCtorEq, Int.reduceToNat, Int.reduceAdd, Int.reduceSub, Int.reduceMul, cl]
    refine hold_loop okT (rs := [.tmp 4]) rfl [5, 17] [7, 18, 19, 20, 21, 22, 23, 24, 25, 26, 27, 28, 29, 30, 31] (fun vs w' => ∃ (k : Nat) (pv : Value), k ≤ x.list.length ∧ vs = [pv, .int .i64 k] ∧ w'.ownsRow w1.heap.size 9 1 pv ((x.list.take k).map (atL l)).length (((x.list.take k).map (atL l)).map strV) ∧ Mod [] w1 w') (fun vs _ => match vs with | [_, .int _ i] => x.list.length - i.toNat | _ => 0) (by kernel_rfl) ⟨0, _, by omega, rfl, World.ownsRow_nil _ _ _ _, Mod.refl _ _⟩ ?_
    rintro vs w2 J ⟨k, pv, hk, rfl, hown, hN⟩
    have F2 := F.mod hN
    have hcl := ownsRow_one hown
    by_cases hlt : k < x.list.length
    · have hrx := F2.inp.rd
      rw [hsv] at hrx
      obtain ⟨b1, o1, c1, e1, _, g1⟩ := hrx.at (by omega) (by omega)
      have f1 : w2.cell? ⟨b1, o1 + k, none⟩ = some (.int .i64 x.list[k]) := g1 k _ (getI hlt)
      rw [Value.slice.injEq] at e1
      obtain ⟨rfl, -, -⟩ := e1
      have hvk := hv _ (List.getElem_mem hlt)
      have htk : (x.list.take (k + 1)).map (atL l) = (x.list.take k).map (atL l) ++ [atL l x.list[k]] := by rw [List.take_succ_eq_append_getElem hlt, List.map_append]; rfl
      generalize x.list[k] = vk at f1 hvk htk
      obtain ⟨hv0, hv1⟩ := hvk
      obtain ⟨b2, o2, c2, e2, f2⟩ := rdAt rfl F2.run.rl hv0 hv1
      rw [Value.slice.injEq] at e2
      obtain ⟨rfl, -, -⟩ := e2
      have hkl : ((x.list.take k).map (atL l)).length = k := by rw [List.length_map, List.length_take]; omega
      have hb0 : w1.heap.size ≤ w2.heap.size := hN.size
      simp (maxSteps := 1000000) (disch := first | omega | (simp only [sizeAlloc, sizeDrew, sizeSet, sizePut] <;> omega) | fail) only [GS, TT_eq, TTl, Nat.reduceAdd, Nat.reduceMul, Nat.reduceSub, Nat.reduceDiv, Nat.reduceMod, Nat.reducePow, Nat.reduceEqDiff, ↓reduceIte, reduceCtorEq, Int.reduceToNat, Int.reduceAdd, Int.reduceSub, Int.reduceMul, f1, F2.r1, f2]
      refine hold_append1 okT rfl rfl rfl rfl rfl w1.heap.size hown rfl rfl (u := .string ⟨(atL l vk).toArray⟩) rfl (by simp only; omega) (by unfold maxLen; omega) hb0 fun v' w3 hown3 hM3 _ => hold_ops okT (rs := [.tmp 4]) rfl ?_
      simp (maxSteps := 1000000) (disch := first | omega | (simp only [sizeAlloc, sizeDrew, sizeSet, sizePut] <;> omega) | fail) only [GS, TT_eq, TTl, Nat.reduceAdd, Nat.reduceMul, Nat.reduceSub, Nat.reduceDiv, Nat.reduceMod, Nat.reducePow, Nat.reduceEqDiff, ↓reduceIte, reduceCtorEq, Int.reduceToNat, Int.reduceAdd, Int.reduceSub, Int.reduceMul]
      refine ⟨⟨k + 1, v', by omega, rfl, ?_, hN.trans hM3 (fun y hy => .inr (hown.lt y (by simpa using hy)).1)⟩, by omega⟩
      rw [htk, List.map_append, List.length_append]
      exact hown3
    · have e : k = x.list.length := by omega
      subst e
      rw [List.take_length] at hown
      have hrp := Rd.own hown
      obtain ⟨pa, pc, rfl⟩ := hrp.slice
      have hlm : (x.list.map (atL l)).length = x.list.length := List.length_map _
      simp (maxSteps := 1000000) (disch := first | omega | (simp only [sizeAlloc, sizeDrew, sizeSet, sizePut] <;> omega) | fail) only [GS, TT_eq, TTl, Nat.reduceAdd, Nat.reduceMul, Nat.reduceSub, Nat.reduceDiv, Nat.reduceMod, Nat.reducePow, Nat.reduceEqDiff, ↓reduceIte, reduceCtorEq, Int.reduceToNat, Int.reduceAdd, Int.reduceSub, Int.reduceMul]
      refine ⟨fok32, tRow_cps _ (x.list.map (atL l)) _ _ (by omega) (fun s hs => by obtain ⟨v, hv', rfl⟩ := List.mem_map.1 hs; have := h.len (atL_mem (hv v hv').1 (hv v hv').2); omega) hrp fun w3 hN3 => .inl ⟨_, rfl, hold_ops okT (rs := [.tmp 4]) rfl ?_⟩⟩
      have F := F2.mod hN3
      have hM := (hM.trans hN (by simp)).trans hN3 (by simp)
      generalize madeS (114 :: numL (x.list.map (atL l)).length) (x.list.map (atL l)) = X at hR ⊢
      obtain ⟨t, e⟩ := X
      unfold stV
      simp (maxSteps := 1000000) (disch := first | omega | (simp only [sizeAlloc, sizeDrew, sizeSet, sizePut] <;> omega) | fail) only [GS, TT_eq, TTl, Nat.reduceAdd, Nat.reduceMul, Nat.reduceSub, Nat.reduceDiv, Nat.reduceMod, Nat.reducePow, Nat.reduceEqDiff, ↓reduceIte, reduceCtorEq, Int.reduceToNat, Int.reduceAdd, Int.reduceSub, Int.reduceMul]
      refine ⟨fok98, fMade_cps rp _ _ _ _ l.length _ _ F.run.hp hsl ?_⟩
      specialize hR _ hM
      unfold endD at hR ⊢
      by_cases hz5 : (mk5 (t, e)).2 = 0
      · rw [if_pos hz5] at hR ⊢
        refine .inl ⟨_, rfl, hold_ops okT (rs := [.tmp 4]) rfl ?_⟩
        simp (maxSteps := 1000000) (disch := first | omega | (simp only [sizeAlloc, sizeDrew, sizeSet, sizePut] <;> omega) | fail) only [GS, TT_eq, TTl, Nat.reduceAdd, Nat.reduceMul, Nat.reduceSub, Nat.reduceDiv, Nat.reduceMod, Nat.reducePow, Nat.reduceEqDiff, ↓reduceIte, reduceCtorEq, Int.reduceToNat, Int.reduceAdd, Int.reduceSub, Int.reduceMul]
        exact hR
      · rw [if_neg hz5] at hR ⊢
        refine .inr ⟨_, rfl, hold_ex okT (rs := [.tmp 4]) rfl ?_⟩
        simp (maxSteps := 1000000) (disch := first | omega | (simp only [sizeAlloc, sizeDrew, sizeSet, sizePut] <;> omega) | fail) only [GS, TT_eq, TTl, Nat.reduceAdd, Nat.reduceMul, Nat.reduceSub, Nat.reduceDiv, Nat.reduceMod, Nat.reducePow, Nat.reduceEqDiff, ↓reduceIte, reduceCtorEq, Int.reduceToNat, Int.reduceAdd, Int.reduceSub, Int.reduceMul]
        exact hR
  · rw [if_neg h32] at hR
    simp (maxSteps := 1000000) (disch := first | omega | (simp only [sizeAlloc, sizeDrew, sizeSet, sizePut] <;> omega) | fail) only [GS, TT_eq, TTl, Nat.reduceAdd, Nat.reduceMul, Nat.reduceSub, Nat.reduceDiv, Nat.reduceMod, Nat.reducePow, Nat.reduceEqDiff, ↓reduceIte, reduceCtorEq, Int.reduceToNat, Int.reduceAdd, Int.reduceSub, Int.reduceMul, cl, hsv]
    refine ⟨fok76, fMust_cps rp false 5 _ _ l.length _ _ F.run.hp hsl (fun h => absurd h (by simp)) (fun _ => .inr ⟨_, rfl, hold_ex okT (rs := [.tmp 4]) rfl ?_⟩)⟩
    simp (maxSteps := 1000000) (disch := first | omega | (simp only [sizeAlloc, sizeDrew, sizeSet, sizePut] <;> omega) | fail) only [GS, TT_eq, TTl, Nat.reduceAdd, Nat.reduceMul, Nat.reduceSub, Nat.reduceDiv, Nat.reduceMod, Nat.reducePow, Nat.reduceEqDiff, ↓reduceIte, reduceCtorEq, Int.reduceToNat, Int.reduceAdd, Int.reduceSub, Int.reduceMul]
    exact hR _ hM
end Go.Proofs.Ytoladcdelaemoaa
