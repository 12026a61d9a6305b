/-
  keys.Terms of a suite of terms; verify.Keys (walks). receipt.Ballots (walk). verify.New (walks). (*verify.Verifier).wrong (walk). receipt.Names (walk). receipt.Ballots: what the ballots' members are (walk; as in Rcq6). chirographlaw13: one, alive (walks). (*verify.Verifier).Verify (walk).
-/
import Derived.Test.YtcikecociiebkaaGreatDoorQaZ10
import Derived.Test.YtcikecociiebkaaGreatDoorQaZ8
set_option linter.unusedSimpArgs false
set_option linter.unusedVariables false
set_option maxRecDepth 20000
namespace Go.Proofs.YtcikecociiebkaaGreatDoor
open Go Go.Wk Go.RowKit
attribute [local irreducible] go Hold
open Go.Lib
set_option maxRecDepth 20000 in
set_option maxHeartbeats 8000000 in
theorem vTerms_cps (s : Nat) (na : Value) (ns : List Tm) (w : World) (hl : ns.length ≤ 1000) (hn : ∀ n ∈ ns, n.length ≤ maxLen ∧ (atomS n).2 = 0) (hs : isSui w s) (ha : Rd w 1 na ns.length (ns.map strV)) (R : Ending → World → Prop)
    (hR : ∀ sv w', w'.ownsRow w.heap.size 9 1 sv ns.length (ns.map fun n => strV (atomS n).1) → Mod [] w w' → R (.returned (.tuple #[sv, .int .i64 0])) w') : Calls Tryz.prog 28 #[.pointer (some ⟨s, 0, none⟩), na] w R := by
  obtain ⟨a, ca, rfl⟩ := ha.slice
  refine calls_go 4000 okT Tryz.func28 rfl (rs := [.tmp 4, .tmp 5]) rfl Tryz.ntmps28 (args := [.pointer (some ⟨s, 0, none⟩), .slice a ns.length ca]) ?_
  simp (maxSteps := 1000000) (disch := first | omega | (simp only [sizeAlloc, sizeDrew, sizeSet, sizePut] <;> omega) | fail) only [GS, TT_eq, TTl, Nat.reduceAdd, Nat.reduceMul, Nat.reduceSub, Nat.reduceDiv, Nat.reduceMod, Nat.reducePow, Nat.reduceEqDiff, ↓reduceIte, reduceCtorEq, Int.reduceToNat, Int.reduceAdd, Int.reduceSub, Int.reduceMul]
  refine hold_loop okT (rs := [.tmp 4, .tmp 5]) rfl [4, 14] [5, 7, 8, 9, 15, 16, 17, 18, 19, 20, 21, 22, 23, 24, 25, 26, 27, 28, 29, 30, 31] (fun vs w' => ∃ (k : Nat) (sv : Value), vs = [sv, .int .i64 k] ∧ k ≤ ns.length ∧ w'.ownsRow w.heap.size 9 1 sv k ((ns.take k).map fun n => strV (atomS n).1) ∧ Mod [] w w') (fun vs _ => match vs with | [_, .int _ i] => ns.length - i.toNat | _ => 0) (by kernel_rfl) ⟨0, _, rfl, by omega, World.ownsRow_nil _ _ _ _, Mod.refl _ _⟩ ?_
  rintro vs w1 J ⟨k, sv, rfl, hk, hown, hM⟩
  have hcl := ownsRow_one hown
  obtain ⟨sa, sc, rfl⟩ := (Rd.own hown).slice
  by_cases hlt : k < ns.length
  · obtain ⟨b1, o1, c1, e1, _, g1⟩ := (ha.mod hM (by simp)).at (by omega) (by omega)
    have f1 : w1.cell? ⟨b1, o1 + k, none⟩ = some (.string ⟨(ns[k]).toArray⟩) := g1 k _ (getS hlt)
    rw [Value.slice.injEq] at e1
    obtain ⟨rfl, -, -⟩ := e1
    have htk := List.take_succ_eq_append_getElem hlt
    have hxk := hn _ (List.getElem_mem hlt)
    generalize ns[k] = x at *
    simp (maxSteps := 1000000) (disch := first | omega | (simp only [sizeAlloc, sizeDrew, sizeSet, sizePut] <;> omega) | fail) only [GS, TT_eq, TTl, Nat.reduceAdd, Nat.reduceMul, Nat.reduceSub, Nat.reduceDiv, Nat.reduceMod, Nat.reducePow, Nat.reduceEqDiff, ↓reduceIte, reduceCtorEq, Int.reduceToNat, Int.reduceAdd, Int.reduceSub, Int.reduceMul, f1]
    refine ⟨fok15, sKey_cps s x hxk.1 _ (hs.mod hM) _ fun w2 hM2 => .inl ⟨_, rfl, hold_ops okT (rs := [.tmp 4, .tmp 5]) rfl ?_⟩⟩
    have hown2 := ownsRow_mod hown hM2 (by simp)
    have hM02 := hM.trans hM2 (by simp)
    unfold stV
    rw [hxk.2]
    simp (maxSteps := 1000000) (disch := first | omega | (simp only [sizeAlloc, sizeDrew, sizeSet, sizePut] <;> omega) | fail) only [GS, TT_eq, TTl, Nat.reduceAdd, Nat.reduceMul, Nat.reduceSub, Nat.reduceDiv, Nat.reduceMod, Nat.reducePow, Nat.reduceEqDiff, ↓reduceIte, reduceCtorEq, Int.reduceToNat, Int.reduceAdd, Int.reduceSub, Int.reduceMul]
    refine hold_append1 okT rfl rfl rfl rfl rfl w.heap.size hown2 rfl rfl (u := .string ⟨(atomS x).1.toArray⟩) rfl (by simp only; omega) (by unfold maxLen; omega) hM02.size fun v' w5 hown5 hM5 _ => hold_ops okT (rs := [.tmp 4, .tmp 5]) rfl ?_
    have hob : ∀ y ∈ (Value.slice sa k sc).ownBlock.toList, w.heap.size ≤ y := fun y hy => (hown2.lt y (by simpa using hy)).1
    have hM05 := hM02.trans hM5 (fun y hy => .inr (hob y hy))
    simp (maxSteps := 1000000) (disch := first | omega | (simp only [sizeAlloc, sizeDrew, sizeSet, sizePut] <;> omega) | fail) only [GS, TT_eq, TTl, Nat.reduceAdd, Nat.reduceMul, Nat.reduceSub, Nat.reduceDiv, Nat.reduceMod, Nat.reducePow, Nat.reduceEqDiff, ↓reduceIte, reduceCtorEq, Int.reduceToNat, Int.reduceAdd, Int.reduceSub, Int.reduceMul]
    refine ⟨⟨k + 1, _, rfl, by omega, ?_, hM05⟩, by omega⟩
    rw [htk, List.map_append]
    exact hown5
  · have e : k = ns.length := by omega
    subst e
    rw [List.take_length] at hown
    simp (maxSteps := 1000000) (disch := first | omega | (simp only [sizeAlloc, sizeDrew, sizeSet, sizePut] <;> omega) | fail) only [GS, TT_eq, TTl, Nat.reduceAdd, Nat.reduceMul, Nat.reduceSub, Nat.reduceDiv, Nat.reduceMod, Nat.reducePow, Nat.reduceEqDiff, ↓reduceIte, reduceCtorEq, Int.reduceToNat, Int.reduceAdd, Int.reduceSub, Int.reduceMul]
    exact hR _ _ hown hM
def nmsF (aud : Int) (n : Nat) : List Tm := (List.range n).map fun k => keyL 1 aud (k : Nat)
set_option maxRecDepth 20000 in
set_option maxHeartbeats 8000000 in
theorem vKeys_cps (s : Nat) (aud : Int) (n : Nat) (h1 : 1 ≤ n ∧ n ≤ 8) (h2 : 0 ≤ aud ∧ aud < n) (w : World) (hs : isSui w s) (hg : KG w) (R : Ending → World → Prop)
    (hR : ∀ sv w', w'.ownsRow w.heap.size 9 1 sv n ((kysF aud n).map strV) → Mod [] w w' → R (.returned (.tuple #[sv, .int .i64 0])) w') : Calls Tryz.prog 8 #[.pointer (some ⟨s, 0, none⟩), .int .i64 aud, .int .i64 n] w R := by
  refine calls_go 4000 okT Tryz.func8 rfl (rs := [.tmp 6, .tmp 7]) rfl Tryz.ntmps8 (args := [.pointer (some ⟨s, 0, none⟩), .int .i64 aud, .int .i64 n]) ?_
  simp (maxSteps := 1000000) (disch := first | omega | (simp only [sizeAlloc, sizeDrew, sizeSet, sizePut] <;> omega) | fail) only [GS, TT_eq, TTl, Nat.reduceAdd, Nat.reduceMul, Nat.reduceSub, Nat.reduceDiv, Nat.reduceMod, Nat.reducePow, Nat.reduceEqDiff, ↓reduceIte, reduceCtorEq, Int.reduceToNat, Int.reduceAdd, Int.reduceSub, Int.reduceMul]
  refine hold_loop okT (rs := [.tmp 6, .tmp 7]) rfl [8, 26] [9, 10, 11, 27, 28, 29, 30, 31, 32, 33, 34, 35, 36, 37, 38, 39] (fun vs w' => ∃ (k : Nat) (sv : Value), vs = [sv, .int .i64 k] ∧ k ≤ n ∧ w'.ownsRow w.heap.size 9 1 sv k ((nmsF aud k).map strV) ∧ Mod [] w w') (fun vs _ => match vs with | [_, .int _ i] => n - i.toNat | _ => 0) (by kernel_rfl) ⟨0, _, rfl, by omega, World.ownsRow_nil _ _ _ _, Mod.refl _ _⟩ ?_
  rintro vs w1 J ⟨k, sv, rfl, hk, hown, hM⟩
  have hcl := ownsRow_one hown
  obtain ⟨sa, sc, rfl⟩ := (Rd.own hown).slice
  by_cases hlt : k < n
  · simp (maxSteps := 1000000) (disch := first | omega | (simp only [sizeAlloc, sizeDrew, sizeSet, sizePut] <;> omega) | fail) only [GS, TT_eq, TTl, Nat.reduceAdd, Nat.reduceMul, Nat.reduceSub, Nat.reduceDiv, Nat.reduceMod, Nat.reducePow, Nat.reduceEqDiff, ↓reduceIte, reduceCtorEq, Int.reduceToNat, Int.reduceAdd, Int.reduceSub, Int.reduceMul]
    refine ⟨fok14, kTag_cps aud k _ _ (hg.mod hM (by simp)) fun w2 hM2 => .inl ⟨_, rfl, hold_ops okT (rs := [.tmp 6, .tmp 7]) rfl ?_⟩⟩
    have hown2 := ownsRow_mod hown hM2 (by simp)
    have hM02 := hM.trans hM2 (by simp)
    unfold keyA
    rw [if_pos (show pairOk aud k from ⟨⟨h2.1, by omega⟩, by omega, by omega⟩)]
    simp (maxSteps := 1000000) (disch := first | omega | (simp only [sizeAlloc, sizeDrew, sizeSet, sizePut] <;> omega) | fail) only [GS, TT_eq, TTl, Nat.reduceAdd, Nat.reduceMul, Nat.reduceSub, Nat.reduceDiv, Nat.reduceMod, Nat.reducePow, Nat.reduceEqDiff, ↓reduceIte, reduceCtorEq, Int.reduceToNat, Int.reduceAdd, Int.reduceSub, Int.reduceMul]
    refine hold_append1 okT rfl rfl rfl rfl rfl w.heap.size hown2 rfl rfl (u := .string ⟨(keyL 1 aud k).toArray⟩) rfl (by simp only; omega) (by unfold maxLen; omega) hM02.size fun v' w5 hown5 hM5 _ => hold_ops okT (rs := [.tmp 6, .tmp 7]) rfl ?_
    have hob : ∀ y ∈ (Value.slice sa k sc).ownBlock.toList, w.heap.size ≤ y := fun y hy => (hown2.lt y (by simpa using hy)).1
    have hM05 := hM02.trans hM5 (fun y hy => .inr (hob y hy))
    simp (maxSteps := 1000000) (disch := first | omega | (simp only [sizeAlloc, sizeDrew, sizeSet, sizePut] <;> omega) | fail) only [GS, TT_eq, TTl, Nat.reduceAdd, Nat.reduceMul, Nat.reduceSub, Nat.reduceDiv, Nat.reduceMod, Nat.reducePow, Nat.reduceEqDiff, ↓reduceIte, reduceCtorEq, Int.reduceToNat, Int.reduceAdd, Int.reduceSub, Int.reduceMul]
    refine ⟨⟨k + 1, _, rfl, by omega, ?_, hM05⟩, by omega⟩
    have e : nmsF aud (k + 1) = nmsF aud k ++ [keyL 1 aud k] := by unfold nmsF; rw [List.range_succ, List.map_append]; rfl
    rw [e, List.map_append]
    exact hown5
  · have e : k = n := by omega
    subst e
    have hlen : (nmsF aud k).length = k := by unfold nmsF; simp
    simp (maxSteps := 1000000) (disch := first | omega | (simp only [sizeAlloc, sizeDrew, sizeSet, sizePut] <;> omega) | fail) only [GS, TT_eq, TTl, Nat.reduceAdd, Nat.reduceMul, Nat.reduceSub, Nat.reduceDiv, Nat.reduceMod, Nat.reducePow, Nat.reduceEqDiff, ↓reduceIte, reduceCtorEq, Int.reduceToNat, Int.reduceAdd, Int.reduceSub, Int.reduceMul]
    refine ⟨fok28, vTerms_cps s _ (nmsF aud k) w1 (by omega) (fun x hx => ?_) (hs.mod hM) (by rw [hlen]; exact Rd.own hown) _ fun sv w2 hown2 hM2 => .inl ⟨_, rfl, hold_ops okT (rs := [.tmp 6, .tmp 7]) rfl ?_⟩⟩
    · unfold nmsF at hx
      obtain ⟨j, hj, rfl⟩ := List.mem_map.1 hx
      rw [List.mem_range] at hj
      refine ⟨by unfold keyL maxLen; simp, ?_⟩
      rw [ky_ok (a := aud) (b := (j : Nat)) (by omega) (by omega)]
    · have hcl2 := ownsRow_one hown2
      rw [hlen] at hown2
      simp (maxSteps := 1000000) (disch := first | omega | (simp only [sizeAlloc, sizeDrew, sizeSet, sizePut] <;> omega) | fail) only [GS, TT_eq, TTl, Nat.reduceAdd, Nat.reduceMul, Nat.reduceSub, Nat.reduceDiv, Nat.reduceMod, Nat.reducePow, Nat.reduceEqDiff, ↓reduceIte, reduceCtorEq, Int.reduceToNat, Int.reduceAdd, Int.reduceSub, Int.reduceMul, cellsL_one hcl2, hcl2]
      refine hR _ _ ?_ (hM.trans hM2 (by simp))
      have e2 : ((nmsF aud k).map fun n => strV (atomS n).1) = (kysF aud k).map strV := by unfold nmsF kysF kyT; rw [List.map_map, List.map_map]; rfl
      rw [← e2]
      exact ownsRow_base hown2 hM.size
set_option maxRecDepth 20000 in
set_option maxHeartbeats 8000000 in
theorem vKeys_bad (s : Nat) (aud : Int) (n : Int) (h : n < 1 ∨ 8 < n ∨ aud < 0 ∨ n ≤ aud) (w : World) (R : Ending → World → Prop) (hR : R (.returned (.tuple #[.slice none 0 0, .int .i64 2])) w) :
    Calls Tryz.prog 8 #[.pointer (some ⟨s, 0, none⟩), .int .i64 aud, .int .i64 n] w R := by
  refine calls_go 4000 okT Tryz.func8 rfl (rs := [.tmp 6, .tmp 7]) rfl Tryz.ntmps8 (args := [.pointer (some ⟨s, 0, none⟩), .int .i64 aud, .int .i64 n]) ?_
  by_cases h1 : n < 1
  · simp (maxSteps := 1000000) (disch := first | omega | (simp only [sizeAlloc, sizeDrew, sizeSet, sizePut] <;> omega) | fail) only [GS, TT_eq, TTl, Nat.reduceAdd, Nat.reduceMul, Nat.reduceSub, Nat.reduceDiv, Nat.reduceMod, Nat.reducePow, Nat.reduceEqDiff, ↓reduceIte, reduceCtorEq, Int.reduceToNat, Int.reduceAdd, Int.reduceSub, Int.reduceMul]
    exact hR
  by_cases h2 : 8 < n
  · simp (maxSteps := 1000000) (disch := first | omega | (simp only [sizeAlloc, sizeDrew, sizeSet, sizePut] <;> omega) | fail) only [GS, TT_eq, TTl, Nat.reduceAdd, Nat.reduceMul, Nat.reduceSub, Nat.reduceDiv, Nat.reduceMod, Nat.reducePow, Nat.reduceEqDiff, ↓reduceIte, reduceCtorEq, Int.reduceToNat, Int.reduceAdd, Int.reduceSub, Int.reduceMul]
    exact hR
  by_cases h3 : aud < 0
  · simp (maxSteps := 1000000) (disch := first | omega | (simp only [sizeAlloc, sizeDrew, sizeSet, sizePut] <;> omega) | fail) only [GS, TT_eq, TTl, Nat.reduceAdd, Nat.reduceMul, Nat.reduceSub, Nat.reduceDiv, Nat.reduceMod, Nat.reducePow, Nat.reduceEqDiff, ↓reduceIte, reduceCtorEq, Int.reduceToNat, Int.reduceAdd, Int.reduceSub, Int.reduceMul]
    exact hR
  · simp (maxSteps := 1000000) (disch := first | omega | (simp only [sizeAlloc, sizeDrew, sizeSet, sizePut] <;> omega) | fail) only [GS, TT_eq, TTl, Nat.reduceAdd, Nat.reduceMul, Nat.reduceSub, Nat.reduceDiv, Nat.reduceMod, Nat.reducePow, Nat.reduceEqDiff, ↓reduceIte, reduceCtorEq, Int.reduceToNat, Int.reduceAdd, Int.reduceSub, Int.reduceMul]
    exact hR
end Go.Proofs.YtcikecociiebkaaGreatDoor
set_option linter.unusedSimpArgs false
set_option linter.unusedVariables false
set_option maxRecDepth 20000
namespace Go.Proofs.YtcikecociiebkaaGreatDoor
open Go Go.Wk Go.RowKit
attribute [local irreducible] go Hold
open Go.Lib
theorem zeroRow {w : World} {e base size : Nat} (hb : base ≤ w.heap.size) : (w.alloc (.cells #[] e)).ownsRow base e size (.slice (some ⟨w.heap.size, 0, none⟩) 0 0) 0 [] :=
  ⟨by simp, .inr ⟨w.heap.size, 0, #[], rfl, hb, heapNew, Nat.le_refl _, by unfold maxLen; omega, by simp, by simp⟩⟩
/-- A ballot's cells. -/
def blC (r : Rcp) (ms : Value) (o : Int) : List Value := [.int .i64 r.tx.1, .int .i64 r.tx.2.1, .int .i64 r.tx.2.2, .int .i64 r.aud, ms, .int .i64 o]
/-- The ballots of so many members, with whatever slices of members. -/
def blL (r : Rcp) : List Value → List Mb → List Value
  | v :: vs, m :: l => blC r v m.1 ++ blL r vs l
  | _, _ => []
theorem blL_snoc (r : Rcp) : ∀ (vs : List Value) (l : List Mb) (v : Value) (m : Mb), vs.length = l.length → blL r (vs ++ [v]) (l ++ [m]) = blL r vs l ++ blC r v m.1
  | [], [], v, m, _ => by simp [blL]
  | x :: vs, y :: l, v, m, h => by
    simp only [List.length_cons, Nat.add_right_cancel_iff] at h
    simp only [List.cons_append, blL, blL_snoc r vs l v m h, List.append_assoc]
  | [], _ :: _, _, _, h => by simp at h
  | _ :: _, [], _, _, h => by simp at h
end Go.Proofs.YtcikecociiebkaaGreatDoor
set_option linter.unusedSimpArgs false
set_option linter.unusedVariables false
set_option maxRecDepth 20000
namespace Go.Proofs.YtcikecociiebkaaGreatDoor
open Go Go.Wk Go.RowKit
attribute [local irreducible] go Hold
open Go.Lib
set_option maxRecDepth 20000 in
set_option maxHeartbeats 4000000 in
theorem vBad_cps (b : Nat) (s : List UInt8) (hs : s.length ≤ maxLen) (hk : kindS s ≠ 0) (w : World) (hb : w.heap[b]? = some (.cells #[.int .u8 1] 5 (0, 0))) (R : Ending → World → Prop) (hR : ∀ w', Mod [] w w' → R (.returned (.bool false)) w') : Calls Tryz.prog 29 (#[.string ⟨s.toArray⟩] ++ #[.pointer (some ⟨b, 0, none⟩)]) w R := by
  refine calls_go 4000 okT Tryz.func29 rfl (rs := [.tmp 3]) rfl Tryz.ntmps29 (args := [.string ⟨s.toArray⟩, .pointer (some ⟨b, 0, none⟩)]) ?_
  simp (maxSteps := 1000000) (disch := first | omega | (simp only [sizeAlloc, sizeDrew, sizeSet, sizePut] <;> omega) | fail) only [GS, TT_eq, TTl, Nat.reduceAdd, Nat.reduceMul, Nat.reduceSub, Nat.reduceDiv, Nat.reduceMod, Nat.reducePow, Nat.reduceEqDiff, ↓reduceIte, reduceCtorEq, Int.reduceToNat, Int.reduceAdd, Int.reduceSub, Int.reduceMul]
  refine ⟨fok30, tKind_cps s hs _ _ fun w1 hM => .inl ⟨_, rfl, hold_ops okT (rs := [.tmp 3]) rfl ?_⟩⟩
  have c1 := fun o => cellOf (o := o) (hM.get hb (by simp))
  have hk0 : 0 < kindS s := by omega
  simp (maxSteps := 1000000) (disch := first | omega | (simp only [sizeAlloc, sizeDrew, sizeSet, sizePut] <;> omega) | fail) only [GS, TT_eq, TTl, Nat.reduceAdd, Nat.reduceMul, Nat.reduceSub, Nat.reduceDiv, Nat.reduceMod, Nat.reducePow, Nat.reduceEqDiff, ↓reduceIte, reduceCtorEq, Int.reduceToNat, Int.reduceAdd, Int.reduceSub, Int.reduceMul, c1]
  exact hR _ hM
set_option maxRecDepth 20000 in
set_option maxHeartbeats 4000000 in
theorem vIdx_cps (b : Nat) (sa : Value) (xs : List (List UInt8)) (w : World) (hb : w.heap[b]? = some (.cells #[.int .u8 1] 5 (0, 0))) (R : Ending → World → Prop) (hx : xs.length ≤ 9223372036854775807) (hz : ∀ s ∈ xs, s.length ≤ maxLen ∧ kindS s ≠ 0) (ha : Rd w 1 sa xs.length (xs.map strV))
    (hR : ∀ w', Mod [] w w' → R (.returned (.int .i64 (-1))) w') : Calls Tryz.prog 75 #[sa, .func (.func 29) #[] #[.pointer (some ⟨b, 0, none⟩)]] w R := by
  obtain ⟨a, ca, rfl⟩ := ha.slice
  refine calls_go 4000 okT Tryz.func75 rfl (rs := [.tmp 4]) rfl Tryz.ntmps75 (args := [.slice a xs.length ca, .func (.func 29) #[] #[.pointer (some ⟨b, 0, none⟩)]]) ?_
  simp (maxSteps := 1000000) (disch := first | omega | (simp only [sizeAlloc, sizeDrew, sizeSet, sizePut] <;> omega) | fail) only [GS, TT_eq, TTl, Nat.reduceAdd, Nat.reduceMul, Nat.reduceSub, Nat.reduceDiv, Nat.reduceMod, Nat.reducePow, Nat.reduceEqDiff, ↓reduceIte, reduceCtorEq, Int.reduceToNat, Int.reduceAdd, Int.reduceSub, Int.reduceMul]
  refine hold_loop okT (rs := [.tmp 4]) rfl [8] [4, 5, 9, 10, 11, 12, 13, 14, 15, 16, 17, 18] (fun vs w' => ∃ k : Nat, k ≤ xs.length ∧ vs = [.int .i64 k] ∧ Mod [] w w') (fun vs _ => match vs with | [.int _ i] => xs.length - i.toNat | _ => 0) (by kernel_rfl) ⟨0, by omega, rfl, Mod.refl _ _⟩ ?_
  rintro vs w1 J ⟨k, hk, rfl, hM⟩
  by_cases hlt : k < xs.length
  · obtain ⟨b1, o1, c1, e1, _, g1⟩ := (ha.mod hM (by simp)).at (by omega) (by omega)
    have f1 := g1 k _ (getS hlt)
    rw [Value.slice.injEq] at e1
    obtain ⟨rfl, -, -⟩ := e1
    have hmem := hz _ (List.getElem_mem hlt)
    generalize xs[k] = t at f1 hmem
    simp (maxSteps := 1000000) (disch := first | omega | (simp only [sizeAlloc, sizeDrew, sizeSet, sizePut] <;> omega) | fail) only [GS, TT_eq, TTl, Nat.reduceAdd, Nat.reduceMul, Nat.reduceSub, Nat.reduceDiv, Nat.reduceMod, Nat.reducePow, Nat.reduceEqDiff, ↓reduceIte, reduceCtorEq, Int.reduceToNat, Int.reduceAdd, Int.reduceSub, Int.reduceMul, f1]
    refine ⟨fok29, vBad_cps b t hmem.1 hmem.2 _ (hM.get hb (by simp)) _ fun w2 hM2 => .inl ⟨_, rfl, hold_ops okT (rs := [.tmp 4]) rfl ?_⟩⟩
    simp (maxSteps := 1000000) (disch := first | omega | (simp only [sizeAlloc, sizeDrew, sizeSet, sizePut] <;> omega) | fail) only [GS, TT_eq, TTl, Nat.reduceAdd, Nat.reduceMul, Nat.reduceSub, Nat.reduceDiv, Nat.reduceMod, Nat.reducePow, Nat.reduceEqDiff, ↓reduceIte, reduceCtorEq, Int.reduceToNat, Int.reduceAdd, Int.reduceSub, Int.reduceMul]
    exact ⟨⟨k + 1, by omega, rfl, hM.trans hM2 (by simp)⟩, by omega⟩
  · have e : k = xs.length := by omega
    subst e
    simp (maxSteps := 1000000) (disch := first | omega | (simp only [sizeAlloc, sizeDrew, sizeSet, sizePut] <;> omega) | fail) only [GS, TT_eq, TTl, Nat.reduceAdd, Nat.reduceMul, Nat.reduceSub, Nat.reduceDiv, Nat.reduceMod, Nat.reducePow, Nat.reduceEqDiff, ↓reduceIte, reduceCtorEq, Int.reduceToNat, Int.reduceAdd, Int.reduceSub, Int.reduceMul]
    exact hR _ hM
set_option maxRecDepth 20000 in
set_option maxHeartbeats 4000000 in
theorem vCont_cps (b : Nat) (sa : Value) (xs : List (List UInt8)) (w : World) (hb : w.heap[b]? = some (.cells #[.int .u8 1] 5 (0, 0))) (R : Ending → World → Prop) (hx : xs.length ≤ 9223372036854775807) (hz : ∀ s ∈ xs, s.length ≤ maxLen ∧ kindS s ≠ 0) (ha : Rd w 1 sa xs.length (xs.map strV))
    (hR : ∀ w', Mod [] w w' → R (.returned (.bool false)) w') : Calls Tryz.prog 31 #[sa, .func (.func 29) #[] #[.pointer (some ⟨b, 0, none⟩)]] w R := by
  refine calls_go 4000 okT Tryz.func31 rfl (rs := [.tmp 4]) rfl Tryz.ntmps31 (args := [sa, .func (.func 29) #[] #[.pointer (some ⟨b, 0, none⟩)]]) ?_
  simp (maxSteps := 1000000) (disch := first | omega | (simp only [sizeAlloc, sizeDrew, sizeSet, sizePut] <;> omega) | fail) only [GS, TT_eq, TTl, Nat.reduceAdd, Nat.reduceMul, Nat.reduceSub, Nat.reduceDiv, Nat.reduceMod, Nat.reducePow, Nat.reduceEqDiff, ↓reduceIte, reduceCtorEq, Int.reduceToNat, Int.reduceAdd, Int.reduceSub, Int.reduceMul]
  refine ⟨fok75, vIdx_cps b sa xs _ hb _ hx hz ha fun w1 hM => .inl ⟨_, rfl, hold_ops okT (rs := [.tmp 4]) rfl ?_⟩⟩
  simp (maxSteps := 1000000) (disch := first | omega | (simp only [sizeAlloc, sizeDrew, sizeSet, sizePut] <;> omega) | fail) only [GS, TT_eq, TTl, Nat.reduceAdd, Nat.reduceMul, Nat.reduceSub, Nat.reduceDiv, Nat.reduceMod, Nat.reducePow, Nat.reduceEqDiff, ↓reduceIte, reduceCtorEq, Int.reduceToNat, Int.reduceAdd, Int.reduceSub, Int.reduceMul]
  exact hR _ hM
set_option maxRecDepth 20000 in
set_option maxHeartbeats 8000000 in
theorem vClone_cps (sm : Value) (l : List Tm) (w : World) (hl : l.length ≤ 1000000) (ha : Rd w 1 sm l.length (l.map strV)) (R : Ending → World → Prop) (hR : ∀ sv w', w'.ownsRow w.heap.size 9 1 sv l.length (l.map strV) → Mod [] w w' → R (.returned sv) w') : Calls Tryz.prog 32 #[sm] w R := by
  obtain ⟨a, c, rfl⟩ := ha.slice
  refine calls_go 4000 okT Tryz.func32 rfl (rs := [.tmp 2]) rfl Tryz.ntmps32 (args := [.slice a l.length c]) ?_
  cases a with
  | none =>
    simp (maxSteps := 1000000) (disch := first | omega | (simp only [sizeAlloc, sizeDrew, sizeSet, sizePut] <;> omega) | fail) only [GS, TT_eq, TTl, Nat.reduceAdd, Nat.reduceMul, Nat.reduceSub, Nat.reduceDiv, Nat.reduceMod, Nat.reducePow, Nat.reduceEqDiff, ↓reduceIte, reduceCtorEq, Int.reduceToNat, Int.reduceAdd, Int.reduceSub, Int.reduceMul]
    have h0 : l.length = 0 := by
      apply Classical.byContradiction
      intro h
      obtain ⟨b, o, cap, e, _⟩ := ha.at (by omega) (by omega)
      simp at e
    rw [List.length_eq_zero_iff.1 h0] at hR
    exact hR _ _ (World.ownsRow_nil _ _ _ _) (Mod.refl _ _)
  | some ad =>
    simp (maxSteps := 1000000) (disch := first | omega | (simp only [sizeAlloc, sizeDrew, sizeSet, sizePut] <;> omega) | fail) only [GS, TT_eq, TTl, Nat.reduceAdd, Nat.reduceMul, Nat.reduceSub, Nat.reduceDiv, Nat.reduceMod, Nat.reducePow, Nat.reduceEqDiff, ↓reduceIte, reduceCtorEq, Int.reduceToNat, Int.reduceAdd, Int.reduceSub, Int.reduceMul]
    have hz := zeroRow (w := w) (e := 9) (base := w.heap.size) (size := 1) (Nat.le_refl _)
    have hM0 := (Mod.refl [] w).alloc (.cells #[] 9)
    have ha1 := ha.mod hM0 (by simp)
    refine hold_appendR okT rfl rfl rfl rfl (by decide) w.heap.size hz rfl rfl ha1 (by intro u hu; obtain ⟨z, _, rfl⟩ := List.mem_map.1 hu; rfl) (by simp only; omega) (by unfold maxLen; omega) (by rw [sizeAlloc]; omega) fun sv w2 hown hM2 => hold_ops okT (rs := [.tmp 2]) rfl ?_
    have hsv := ownsRow_one hown
    simp (maxSteps := 1000000) (disch := first | omega | (simp only [sizeAlloc, sizeDrew, sizeSet, sizePut] <;> omega) | fail) only [GS, TT_eq, TTl, Nat.reduceAdd, Nat.reduceMul, Nat.reduceSub, Nat.reduceDiv, Nat.reduceMod, Nat.reducePow, Nat.reduceEqDiff, ↓reduceIte, reduceCtorEq, Int.reduceToNat, Int.reduceAdd, Int.reduceSub, Int.reduceMul, cellsL_one hsv, hsv]
    rw [Nat.zero_add, List.nil_append] at hown
    exact hR sv _ hown (hM0.trans hM2 (fun y hy => .inr (by simp [Value.ownBlock] at hy; omega)))
/-- A verifier of a suite of terms. -/
def VerAt (w : World) (vp : Nat) (aud : Int) (ks : List Tm) : Prop := ∃ (s : Nat) (ka : Value), w.heap[vp]? = some (.cells #[.pointer (some ⟨s, 0, none⟩), .int .i64 aud, ka] 91 (0, 0)) ∧ isSui w s ∧ Rd w 1 ka ks.length (ks.map strV)
theorem VerAt.mod {w w' : World} {vp : Nat} {aud : Int} {ks : List Tm} (h : VerAt w vp aud ks) (hM : Mod [] w w') : VerAt w' vp aud ks := by
  obtain ⟨s, ka, h1, h2, h3⟩ := h
  exact ⟨s, ka, hM.get h1 (by simp), h2.mod hM, h3.mod hM (by simp)⟩
set_option maxRecDepth 20000 in
set_option maxHeartbeats 8000000 in
theorem vNew_cps (aud : Int) (ks : List Tm) (ka : Value) (w : World) (ha : 0 ≤ aud ∧ aud < 8) (hl : 1 ≤ ks.length ∧ ks.length ≤ 8) (hk : ∀ s ∈ ks, s.length ≤ maxLen ∧ kindS s ≠ 0) (hrd : Rd w 1 ka ks.length (ks.map strV)) (R : Ending → World → Prop)
    (hR : ∀ vp w', VerAt w' vp aud ks → Mod [] w w' → R (.returned (.tuple #[.pointer (some ⟨vp, 0, none⟩), .int .i64 0])) w') : Calls Tryz.prog 9 #[.int .u8 1, .int .i64 aud, ka] w R := by
  obtain ⟨a, c, rfl⟩ := hrd.slice
  refine calls_go 4000 okT Tryz.func9 rfl (rs := [.tmp 6, .tmp 7]) rfl Tryz.ntmps9 (args := [.int .u8 1, .int .i64 aud, .slice a ks.length c]) ?_
  simp (maxSteps := 1000000) (disch := first | omega | (simp only [sizeAlloc, sizeDrew, sizeSet, sizePut] <;> omega) | fail) only [GS, TT_eq, TTl, Nat.reduceAdd, Nat.reduceMul, Nat.reduceSub, Nat.reduceDiv, Nat.reduceMod, Nat.reducePow, Nat.reduceEqDiff, ↓reduceIte, reduceCtorEq, Int.reduceToNat, Int.reduceAdd, Int.reduceSub, Int.reduceMul]
  have hb := heapNew (w := w) (o := .cells #[.int .u8 1] 5)
  have hM0 := (Mod.refl [] w).alloc (.cells #[.int .u8 1] 5)
  generalize w.alloc (.cells #[.int .u8 1] 5) = w0 at hb hM0 ⊢
  refine ⟨fok7, sNew_cps [110, 111, 110, 101] _ _ fun s w1 hs hM1 => .inl ⟨_, rfl, hold_ops okT (rs := [.tmp 6, .tmp 7]) rfl ?_⟩⟩
  have hb1 := hM1.get hb (by simp)
  have hM01 := hM0.trans hM1 (by simp)
  simp (maxSteps := 1000000) (disch := first | omega | (simp only [sizeAlloc, sizeDrew, sizeSet, sizePut] <;> omega) | fail) only [GS, TT_eq, TTl, Nat.reduceAdd, Nat.reduceMul, Nat.reduceSub, Nat.reduceDiv, Nat.reduceMod, Nat.reducePow, Nat.reduceEqDiff, ↓reduceIte, reduceCtorEq, Int.reduceToNat, Int.reduceAdd, Int.reduceSub, Int.reduceMul]
  refine ⟨fok31, vCont_cps w.heap.size _ ks _ hb1 _ (by omega) hk (hrd.mod hM01 (by simp)) fun w2 hM2 => .inl ⟨_, rfl, hold_ops okT (rs := [.tmp 6, .tmp 7]) rfl ?_⟩⟩
  have hM02 := hM01.trans hM2 (by simp)
  have hs2 := hs.mod hM2
  simp (maxSteps := 1000000) (disch := first | omega | (simp only [sizeAlloc, sizeDrew, sizeSet, sizePut] <;> omega) | fail) only [GS, TT_eq, TTl, Nat.reduceAdd, Nat.reduceMul, Nat.reduceSub, Nat.reduceDiv, Nat.reduceMod, Nat.reducePow, Nat.reduceEqDiff, ↓reduceIte, reduceCtorEq, Int.reduceToNat, Int.reduceAdd, Int.reduceSub, Int.reduceMul]
  refine ⟨fok32, vClone_cps _ ks _ (by omega) (hrd.mod hM02 (by simp)) _ fun sv w3 hown hM3 => .inl ⟨_, rfl, hold_ops okT (rs := [.tmp 6, .tmp 7]) rfl ?_⟩⟩
  have hM03 := hM02.trans hM3 (by simp)
  have hs3 := hs2.mod hM3
  have hcl := ownsRow_one hown
  have hrd3 := Rd.own hown
  simp (maxSteps := 1000000) (disch := first | omega | (simp only [sizeAlloc, sizeDrew, sizeSet, sizePut] <;> omega) | fail) only [GS, TT_eq, TTl, Nat.reduceAdd, Nat.reduceMul, Nat.reduceSub, Nat.reduceDiv, Nat.reduceMod, Nat.reducePow, Nat.reduceEqDiff, ↓reduceIte, reduceCtorEq, Int.reduceToNat, Int.reduceAdd, Int.reduceSub, Int.reduceMul, cellsL_one hcl, hcl]
  have hM34 := (Mod.refl [] w3).alloc (.cells #[.pointer (some ⟨s, 0, none⟩), .int .i64 aud, sv] 91)
  exact hR _ _ ⟨s, sv, heapNew, hs3.mod hM34, hrd3.mod hM34 (by simp)⟩ (hM03.trans hM34 (by simp))
end Go.Proofs.YtcikecociiebkaaGreatDoor
set_option linter.unusedSimpArgs false
set_option linter.unusedVariables false
set_option maxRecDepth 20000
namespace Go.Proofs.YtcikecociiebkaaGreatDoor
open Go Go.Wk Go.RowKit
attribute [local irreducible] go Hold
open Go.Lib
set_option maxRecDepth 20000 in
set_option maxHeartbeats 16000000 in
theorem vWrong_cps (vp : Nat) (au0 : Int) (ks : List Tm) (x : Tx) (aud : Int) (ms : Value) (mbs : List Mb) (o : Int) (tag : Tm) (w : World) (hv : VerAt w vp au0 ks) (hkl : ks.length ≤ 1000000) (hks : ∀ k ∈ ks, k.length ≤ 1000000) (ho : 0 ≤ o) (hl : mbs.length ≤ 1000000) (hd : ∀ m ∈ mbs, m.2.length ≤ maxLen) (ha : Rd w 2 ms mbs.length (mbs.flatMap mbC)) (R : Ending → World → Prop)
    (hR : ∀ w', Mod [] w w' → R (.returned (.int .i64 (wrgF ks x aud mbs o tag))) w') : Calls Tryz.prog 39 #[.pointer (some ⟨vp, 0, none⟩), balV x aud ms o, .string ⟨tag.toArray⟩] w R := by
  obtain ⟨s, ka, hB, hs, hrd⟩ := hv
  have hBd := fun w h => bBody_cps x aud ms mbs o w hl hd h
  have hbl := body_len x aud mbs o
  unfold wrgF at hR
  generalize bodyS x aud mbs o = D at *
  obtain ⟨dt, de⟩ := D
  obtain ⟨a, b, c⟩ := x
  obtain ⟨pm, cm, rfl⟩ := ha.slice
  obtain ⟨pk, ck, rfl⟩ := hrd.slice
  unfold balV at hBd ⊢
  simp only at hBd hbl hR ⊢
  refine calls_go 4000 okT Tryz.func39 rfl (rs := [.tmp 6]) rfl Tryz.ntmps39 (args := [.pointer (some ⟨vp, 0, none⟩), .agg #[.int .i64 a, .int .i64 b, .int .i64 c, .int .i64 aud, .slice pm mbs.length cm, .int .i64 o], .string ⟨tag.toArray⟩]) ?_
  simp (maxSteps := 1000000) (disch := first | omega | (simp only [sizeAlloc, sizeDrew, sizeSet, sizePut] <;> omega) | fail) only [GS, TT_eq, TTl, Nat.reduceAdd, Nat.reduceMul, Nat.reduceSub, Nat.reduceDiv, Nat.reduceMod, Nat.reducePow, Nat.reduceEqDiff, ↓reduceIte, reduceCtorEq, Int.reduceToNat, Int.reduceAdd, Int.reduceSub, Int.reduceMul]
  generalize hW : w.alloc (.cells #[.int .i64 a, .int .i64 b, .int .i64 c, .int .i64 aud, .slice pm mbs.length cm, .int .i64 o] 52) = w1
  obtain ⟨hA, hM0⟩ := bx6 hW
  clear hW
  generalize hn : w.heap.size = n at *
  have hB1 := hM0.get hB (by simp)
  have cv := fun o => cellOf (o := o) hB1
  have ca := fun o => cellOf (o := o) hA
  by_cases hlo : (ks.length : Int) ≤ o
  · rw [if_pos hlo] at hR
    simp (maxSteps := 1000000) (disch := first | omega | (simp only [sizeAlloc, sizeDrew, sizeSet, sizePut] <;> omega) | fail) only [GS, TT_eq, TTl, Nat.reduceAdd, Nat.reduceMul, Nat.reduceSub, Nat.reduceDiv, Nat.reduceMod, Nat.reducePow, Nat.reduceEqDiff, ↓reduceIte, reduceCtorEq, Int.reduceToNat, Int.reduceAdd, Int.reduceSub, Int.reduceMul, cv, ca]
    refine ⟨by kernel_rfl, fun m => ?_⟩
    exact hR _ (hM0.drewN m)
  rw [if_neg hlo] at hR
  simp (maxSteps := 1000000) (disch := first | omega | (simp only [sizeAlloc, sizeDrew, sizeSet, sizePut] <;> omega) | fail) only [GS, TT_eq, TTl, Nat.reduceAdd, Nat.reduceMul, Nat.reduceSub, Nat.reduceDiv, Nat.reduceMod, Nat.reducePow, Nat.reduceEqDiff, ↓reduceIte, reduceCtorEq, Int.reduceToNat, Int.reduceAdd, Int.reduceSub, Int.reduceMul, cv, ca]
  refine ⟨by kernel_rfl, fun m => ?_⟩
  have hM12 := (Mod.refl [] w1).drewN m
  generalize w1.drewN m = w2 at *
  have hA2 := hM12.get hA (by simp)
  have hB2 := hM12.get hB1 (by simp)
  have hM02 := hM0.trans hM12 (by simp)
  have ca2 := fun o => cellOf (o := o) hA2
  refine ⟨fok42, hBd _ (ha.mod hM02 (by simp)) _ fun w3 hM3 => .inl ⟨_, rfl, hold_ops okT (rs := [.tmp 6]) rfl ?_⟩⟩
  have hA3 := hM3.get hA2 (by simp)
  have hB3 := hM3.get hB2 (by simp)
  have hM03 := hM02.trans hM3 (by simp)
  unfold stV
  by_cases he : de = 0
  rotate_left
  · rw [if_pos he] at hR
    simp (maxSteps := 1000000) (disch := first | omega | (simp only [sizeAlloc, sizeDrew, sizeSet, sizePut] <;> omega) | fail) only [GS, TT_eq, TTl, Nat.reduceAdd, Nat.reduceMul, Nat.reduceSub, Nat.reduceDiv, Nat.reduceMod, Nat.reducePow, Nat.reduceEqDiff, ↓reduceIte, reduceCtorEq, Int.reduceToNat, Int.reduceAdd, Int.reduceSub, Int.reduceMul, he]
    exact hR _ hM03
  rw [if_neg (fun h => h he)] at hR
  subst he
  have hlt : o.toNat < ks.length := by omega
  obtain ⟨b1, o1, c1, e1, _, g1⟩ := (hrd.mod hM03 (by simp)).at (by omega) (by omega)
  have f1 : w3.cell? ⟨b1, o1 + o.toNat, none⟩ = some (.string ⟨(ks[o.toNat]).toArray⟩) := g1 o.toNat _ (getS hlt)
  rw [Value.slice.injEq] at e1
  obtain ⟨rfl, -, -⟩ := e1
  have hk1 := hks _ (List.getElem_mem hlt)
  rw [List.getD_eq_getElem?_getD, List.getElem?_eq_getElem hlt, Option.getD_some] at hR
  generalize ks[o.toNat] = kk at *
  have hto : ((o.toNat : Nat) : Int) = o := by omega
  have ca3 := fun o => cellOf (o := o) hA3
  have cv3 := fun o => cellOf (o := o) hB3
  simp (maxSteps := 1000000) (disch := first | omega | (simp only [sizeAlloc, sizeDrew, sizeSet, sizePut] <;> omega) | fail) only [GS, TT_eq, TTl, Nat.reduceAdd, Nat.reduceMul, Nat.reduceSub, Nat.reduceDiv, Nat.reduceMod, Nat.reducePow, Nat.reduceEqDiff, ↓reduceIte, reduceCtorEq, Int.reduceToNat, Int.reduceAdd, Int.reduceSub, Int.reduceMul]
  refine hold_draw okT (rs := [.tmp 6]) rfl [0, 1, 3, 7, 15, 0, 32, 96, 224, 0, 512, 2016, 4064, 0, 16383, 32767, 65535, 65535, 131071, 524287] [0, 1, 2, 3, 4, 5, 6, 7, 8, 9, 10, 11, 12, 13, 14, 15, 16, 17, 18, 19] (by kernel_rfl) (by kernel_rfl) ?_
  have hM34 := (Mod.refl [] w3).drewN 1
  generalize w3.drewN 1 = w4 at *
  have hA4 := hM34.get hA3 (by simp)
  have hB4 := hM34.get hB3 (by simp)
  have hM04 := hM03.trans hM34 (by simp)
  have f4 : w4.cell? ⟨b1, o1 + o.toNat, none⟩ = some (.string ⟨kk.toArray⟩) := cellMS f1 hM34 (by simp)
  have ca4 := fun o => cellOf (o := o) hA4
  have cv4 := fun o => cellOf (o := o) hB4
  simp (maxSteps := 1000000) (disch := first | omega | (simp only [sizeAlloc, sizeDrew, sizeSet, sizePut] <;> omega) | fail) only [GS, TT_eq, TTl, Nat.reduceAdd, Nat.reduceMul, Nat.reduceSub, Nat.reduceDiv, Nat.reduceMod, Nat.reducePow, Nat.reduceEqDiff, ↓reduceIte, reduceCtorEq, Int.reduceToNat, Int.reduceAdd, Int.reduceSub, Int.reduceMul, ca4, cv4, f4]
  refine ⟨fok43, sMac_cps s kk dt hk1 (by omega) _ (hs.mod hM04) _ fun w5 hM5 => .inl ⟨_, rfl, ?_⟩⟩
  have hM05 := hM04.trans hM5 (by simp)
  have hA5 := hM5.get hA4 (by simp)
  have hB5 := hM5.get hB4 (by simp)
  have f5 := cellMS f4 hM5 (by simp)
  have ca5 := fun o => cellOf (o := o) hA5
  have cv5 := fun o => cellOf (o := o) hB5
  refine hold_dops okT (rs := [.tmp 6]) rfl ?_
  have hml := made_len [109] [kk, dt]
  generalize madeS [109] [kk, dt] = Mk at *
  obtain ⟨mt, me⟩ := Mk
  unfold stV
  simp only at hml ⊢
  by_cases hme : me = 0
  rotate_left
  · rw [if_neg (by rw [Prod.mk.injEq]; exact fun h => hme h.2)] at hR
    simp (maxSteps := 1000000) (disch := first | omega | (simp only [sizeAlloc, sizeDrew, sizeSet, sizePut] <;> omega) | fail) only [GS, TT_eq, TTl, Nat.reduceAdd, Nat.reduceMul, Nat.reduceSub, Nat.reduceDiv, Nat.reduceMod, Nat.reducePow, Nat.reduceEqDiff, ↓reduceIte, reduceCtorEq, Int.reduceToNat, Int.reduceAdd, Int.reduceSub, Int.reduceMul, hme]
    exact hR _ hM05
  subst hme
  simp (maxSteps := 1000000) (disch := first | omega | (simp only [sizeAlloc, sizeDrew, sizeSet, sizePut] <;> omega) | fail) only [GS, TT_eq, TTl, Nat.reduceAdd, Nat.reduceMul, Nat.reduceSub, Nat.reduceDiv, Nat.reduceMod, Nat.reducePow, Nat.reduceEqDiff, ↓reduceIte, reduceCtorEq, Int.reduceToNat, Int.reduceAdd, Int.reduceSub, Int.reduceMul, cv5]
  refine ⟨fok82, sSame_cps s mt tag (by unfold maxLen; omega) _ _ fun w6 hM6 => .inl ⟨_, rfl, hold_ops okT (rs := [.tmp 6]) rfl ?_⟩⟩
  have hM06 := hM05.trans hM6 (by simp)
  by_cases ht : mt = tag
  · rw [if_pos (by rw [ht])] at hR
    rw [decide_eq_true ht]
    simp (maxSteps := 1000000) (disch := first | omega | (simp only [sizeAlloc, sizeDrew, sizeSet, sizePut] <;> omega) | fail) only [GS, TT_eq, TTl, Nat.reduceAdd, Nat.reduceMul, Nat.reduceSub, Nat.reduceDiv, Nat.reduceMod, Nat.reducePow, Nat.reduceEqDiff, ↓reduceIte, reduceCtorEq, Int.reduceToNat, Int.reduceAdd, Int.reduceSub, Int.reduceMul]
    exact hR _ hM06
  · rw [if_neg (by rw [Prod.mk.injEq]; exact fun h => ht h.1)] at hR
    rw [decide_eq_false ht]
    simp (maxSteps := 1000000) (disch := first | omega | (simp only [sizeAlloc, sizeDrew, sizeSet, sizePut] <;> omega) | fail) only [GS, TT_eq, TTl, Nat.reduceAdd, Nat.reduceMul, Nat.reduceSub, Nat.reduceDiv, Nat.reduceMod, Nat.reducePow, Nat.reduceEqDiff, ↓reduceIte, reduceCtorEq, Int.reduceToNat, Int.reduceAdd, Int.reduceSub, Int.reduceMul]
    exact hR _ hM06
end Go.Proofs.YtcikecociiebkaaGreatDoor
set_option linter.unusedSimpArgs false
set_option linter.unusedVariables false
set_option maxRecDepth 20000
namespace Go.Proofs.YtcikecociiebkaaGreatDoor
open Go Go.Wk Go.RowKit
attribute [local irreducible] go Hold
open Go.Lib
theorem eNam1_cps (m : Mb) (org : Int) (b : Nat) (w : World) (hb : w.heap[b]? = some (.cells #[.int .i64 org] 3 (0, 0))) (R : Ending → World → Prop) (hR : ∀ w', Mod [] w w' → R (.returned (.bool (decide (m.1 = org)))) w') :
    Calls Tryz.prog 116 #[.agg #[.int .i64 m.1, .string ⟨m.2.toArray⟩], .pointer (some ⟨b, 0, none⟩)] w R := by
  obtain ⟨mo, md⟩ := m
  simp only at hR ⊢
  have hbl := (Array.getElem?_eq_some_iff.1 hb).1
  have cb := fun o => cellOf (o := o) hb
  refine calls_go 4000 okT Tryz.func116 rfl (rs := [.tmp 3]) rfl Tryz.ntmps116 (args := [.agg #[.int .i64 mo, .string ⟨md.toArray⟩], .pointer (some ⟨b, 0, none⟩)]) ?_
  by_cases h : mo = org
  · rw [decide_eq_true h] at hR
    simp (maxSteps := 1000000) (disch := first | omega | (simp only [sizeAlloc, sizeDrew, sizeSet, sizePut] <;> omega) | fail) only [GS, TT_eq, TTl, Nat.reduceAdd, Nat.reduceMul, Nat.reduceSub, Nat.reduceDiv, Nat.reduceMod, Nat.reducePow, Nat.reduceEqDiff, ↓reduceIte, reduceCtorEq, Int.reduceToNat, Int.reduceAdd, Int.reduceSub, Int.reduceMul, cb, h]
    first | exact hR _ ((Mod.refl [] w).alloc _) | (rw [h]; exact hR _ ((Mod.refl [] w).alloc _))
  · rw [decide_eq_false h] at hR
    simp (maxSteps := 1000000) (disch := first | omega | (simp only [sizeAlloc, sizeDrew, sizeSet, sizePut] <;> omega) | fail) only [GS, TT_eq, TTl, Nat.reduceAdd, Nat.reduceMul, Nat.reduceSub, Nat.reduceDiv, Nat.reduceMod, Nat.reducePow, Nat.reduceEqDiff, ↓reduceIte, reduceCtorEq, Int.reduceToNat, Int.reduceAdd, Int.reduceSub, Int.reduceMul, cb, h]
    exact hR _ ((Mod.refl [] w).alloc _)
set_option maxRecDepth 20000 in
set_option maxHeartbeats 4000000 in
theorem eIdxM_cps (sa : Value) (xs : List Mb) (org : Int) (b : Nat) (w : World) (hb : w.heap[b]? = some (.cells #[.int .i64 org] 3 (0, 0))) (R : Ending → World → Prop) (hx : xs.length ≤ 9223372036854775807) (ha : Rd w 2 sa xs.length (xs.flatMap mbC))
    (h1 : ∀ k w', (hk : k < xs.length) → xs[k].1 = org → Mod [] w w' → R (.returned (.int .i64 (k : Nat))) w') (h0 : (∀ m ∈ xs, m.1 ≠ org) → ∀ w', Mod [] w w' → R (.returned (.int .i64 (-1))) w') :
    Calls Tryz.prog 115 #[sa, .func (.func 116) #[] #[.pointer (some ⟨b, 0, none⟩)]] w R := by
  obtain ⟨a, ca, rfl⟩ := ha.slice
  refine calls_go 4000 okT Tryz.func115 rfl (rs := [.tmp 4]) rfl Tryz.ntmps115 (args := [.slice a xs.length ca, .func (.func 116) #[] #[.pointer (some ⟨b, 0, none⟩)]]) ?_
  simp (maxSteps := 1000000) (disch := first | omega | (simp only [sizeAlloc, sizeDrew, sizeSet, sizePut] <;> omega) | fail) only [GS, TT_eq, TTl, Nat.reduceAdd, Nat.reduceMul, Nat.reduceSub, Nat.reduceDiv, Nat.reduceMod, Nat.reducePow, Nat.reduceEqDiff, ↓reduceIte, reduceCtorEq, Int.reduceToNat, Int.reduceAdd, Int.reduceSub, Int.reduceMul]
  refine hold_loop okT (rs := [.tmp 4]) rfl [8] [4, 5, 9, 10, 11, 12, 13, 14, 15, 16, 17, 18] (fun vs w' => ∃ k : Nat, k ≤ xs.length ∧ vs = [.int .i64 k] ∧ Mod [] w w' ∧ ∀ s ∈ xs.take k, s.1 ≠ org) (fun vs _ => match vs with | [.int _ i] => xs.length - i.toNat | _ => 0) (by kernel_rfl) ⟨0, by omega, rfl, Mod.refl _ _, by simp⟩ ?_
  rintro vs w1 J ⟨k, hk, rfl, hM, hn⟩
  by_cases hlt : k < xs.length
  · obtain ⟨b1, o1, c1, e1, _, g1⟩ := (ha.mod hM (by simp)).at (by omega) (by omega)
    have hfl := fun j hj => flat_get mbC 2 mbC_len xs k hlt j hj
    have htk := List.take_succ_eq_append_getElem hlt
    have h1k := fun w' h hm => h1 k w' hlt h hm
    generalize xs[k] = m at hfl htk h1k
    rw [Value.slice.injEq] at e1
    obtain ⟨rfl, -, -⟩ := e1
    have d0 : w1.cell? ⟨b1, o1 + k * 2, none⟩ = some (.int .i64 m.1) := by rw [← g1 (k * 2) _ (hfl 0 (by omega))]
    have d1 : w1.cell? ⟨b1, o1 + k * 2 + 1, none⟩ = some (.string ⟨m.2.toArray⟩) := by rw [← g1 (k * 2 + 1) _ (hfl 1 (by omega))]; rfl
    simp (maxSteps := 1000000) (disch := first | omega | (simp only [sizeAlloc, sizeDrew, sizeSet, sizePut] <;> omega) | fail) only [GS, TT_eq, TTl, Nat.reduceAdd, Nat.reduceMul, Nat.reduceSub, Nat.reduceDiv, Nat.reduceMod, Nat.reducePow, Nat.reduceEqDiff, ↓reduceIte, reduceCtorEq, Int.reduceToNat, Int.reduceAdd, Int.reduceSub, Int.reduceMul, d0, d1]
    refine ⟨fok116, eNam1_cps m org b _ (hM.get hb (by simp)) _ fun w2 hM2 => .inl ⟨_, rfl, hold_ops okT (rs := [.tmp 4]) rfl ?_⟩⟩
    have hM02 := hM.trans hM2 (by simp)
    by_cases hc : m.1 = org
    · simp (maxSteps := 1000000) (disch := first | omega | (simp only [sizeAlloc, sizeDrew, sizeSet, sizePut] <;> omega) | fail) only [GS, TT_eq, TTl, Nat.reduceAdd, Nat.reduceMul, Nat.reduceSub, Nat.reduceDiv, Nat.reduceMod, Nat.reducePow, Nat.reduceEqDiff, ↓reduceIte, reduceCtorEq, Int.reduceToNat, Int.reduceAdd, Int.reduceSub, Int.reduceMul, hc, decide_true]
      exact h1k _ hc hM02
    · simp (maxSteps := 1000000) (disch := first | omega | (simp only [sizeAlloc, sizeDrew, sizeSet, sizePut] <;> omega) | fail) only [GS, TT_eq, TTl, Nat.reduceAdd, Nat.reduceMul, Nat.reduceSub, Nat.reduceDiv, Nat.reduceMod, Nat.reducePow, Nat.reduceEqDiff, ↓reduceIte, reduceCtorEq, Int.reduceToNat, Int.reduceAdd, Int.reduceSub, Int.reduceMul, hc, decide_false]
      refine ⟨⟨k + 1, by omega, rfl, hM02, ?_⟩, by omega⟩
      rw [htk]
      intro s hs
      rcases List.mem_append.1 hs with hs | hs
      · exact hn s hs
      · rw [List.mem_singleton.1 hs]; exact hc
  · have e : k = xs.length := by omega
    subst e
    rw [List.take_length] at hn
    simp (maxSteps := 1000000) (disch := first | omega | (simp only [sizeAlloc, sizeDrew, sizeSet, sizePut] <;> omega) | fail) only [GS, TT_eq, TTl, Nat.reduceAdd, Nat.reduceMul, Nat.reduceSub, Nat.reduceDiv, Nat.reduceMod, Nat.reducePow, Nat.reduceEqDiff, ↓reduceIte, reduceCtorEq, Int.reduceToNat, Int.reduceAdd, Int.reduceSub, Int.reduceMul]
    exact h0 hn _ hM
theorem mbs_uniq {c : Int} : ∀ {l : List Mb} {last : Int}, mbsB c last l = true → ∀ (i j : Nat) (hi : i < l.length) (hj : j < l.length), l[i].1 = l[j].1 → i = j
  | [], _, _, i, _, hi, _, _ => by simp at hi
  | y :: l, last, h, 0, 0, _, _, _ => rfl
  | y :: l, last, h, 0, j + 1, hi, hj, e => by
    simp only [mbsB, Bool.and_eq_true, decide_eq_true_eq] at h
    simp only [List.getElem_cons_zero, List.getElem_cons_succ] at e
    have := mbs_lt h.2 _ (List.getElem_mem (show j < l.length by simpa using hj))
    omega
  | y :: l, last, h, i + 1, 0, hi, hj, e => by
    simp only [mbsB, Bool.and_eq_true, decide_eq_true_eq] at h
    simp only [List.getElem_cons_zero, List.getElem_cons_succ] at e
    have := mbs_lt h.2 _ (List.getElem_mem (show i < l.length by simpa using hi))
    omega
  | y :: l, last, h, i + 1, j + 1, hi, hj, e => by
    simp only [mbsB, Bool.and_eq_true, decide_eq_true_eq] at h
    simp only [List.getElem_cons_succ] at e
    have := mbs_uniq h.2 i j (by simpa using hi) (by simpa using hj) e
    omega
set_option maxRecDepth 20000 in
set_option maxHeartbeats 8000000 in
theorem eNames_cps (r : Rcp) (sm st : Value) (org : Int) (w : World) (hr : RcpIn w r sm st) (R : Ending → World → Prop)
    (h1 : ∀ k (hk : k < r.mbs.length) (hk2 : k < r.tags.length) w', mayR r = true → r.mbs[k].1 = org → Mod [] w w' → R (.returned (.tuple #[.string ⟨r.mbs[k].2.toArray⟩, .string ⟨(r.tags[k]).toArray⟩, .bool true])) w')
    (h0 : (mayR r = false ∨ ∀ m ∈ r.mbs, m.1 ≠ org) → ∀ w', Mod [] w w' → R (.returned (.tuple #[.string ⟨#[]⟩, .string ⟨#[]⟩, .bool false])) w') :
    Calls Tryz.prog 73 #[rcV r sm st, .int .i64 org] w R := by
  have hCk := eCheck_cps r sm st
  have hIx := eIdxM_cps sm r.mbs org
  have hrW : ∀ w', Mod [] w w' → RcpIn w' r sm st := fun w' hM => hr.mod hM
  have hml := hr.mlen
  have hmr := hr.mrd
  have htr := hr.trd
  have hmay := @may_is r
  clear hr
  generalize mayR r = M at *
  obtain ⟨⟨xa, xb, xc⟩, xd, mbs, tags⟩ := r
  unfold rcV rcC at hCk ⊢
  simp only at hCk hIx hml hmr htr h1 h0 hmay ⊢
  obtain ⟨pm, cm, rfl⟩ := hmr.slice
  obtain ⟨pt, ct, rfl⟩ := htr.slice
  refine calls_go 4000 okT Tryz.func73 rfl (rs := [.tmp 4, .tmp 5, .tmp 6]) rfl Tryz.ntmps73 (args := [.agg #[.int .i64 xa, .int .i64 xb, .int .i64 xc, .int .i64 xd, .slice pm mbs.length cm, .slice pt tags.length ct], .int .i64 org]) ?_
  simp (maxSteps := 1000000) (disch := first | omega | (simp only [sizeAlloc, sizeDrew, sizeSet, sizePut] <;> omega) | fail) only [GS, TT_eq, TTl, Nat.reduceAdd, Nat.reduceMul, Nat.reduceSub, Nat.reduceDiv, Nat.reduceMod, Nat.reducePow, Nat.reduceEqDiff, ↓reduceIte, reduceCtorEq, Int.reduceToNat, Int.reduceAdd, Int.reduceSub, Int.reduceMul]
  have hM0 := ((Mod.refl [] w).alloc (.cells #[.int .i64 xa, .int .i64 xb, .int .i64 xc, .int .i64 xd, .slice pm mbs.length cm, .slice pt tags.length ct] 41)).alloc (.cells #[.int .i64 org] 3)
  have hA := heapAlloc (o' := .cells #[.int .i64 org] 3) (heapNew (w := w) (o := .cells #[.int .i64 xa, .int .i64 xb, .int .i64 xc, .int .i64 xd, .slice pm mbs.length cm, .slice pt tags.length ct] 41))
  have hB := heapNew (w := w.alloc (.cells #[.int .i64 xa, .int .i64 xb, .int .i64 xc, .int .i64 xd, .slice pm mbs.length cm, .slice pt tags.length ct] 41)) (o := .cells #[.int .i64 org] 3)
  rw [sizeAlloc] at hB
  generalize (w.alloc (.cells #[.int .i64 xa, .int .i64 xb, .int .i64 xc, .int .i64 xd, .slice pm mbs.length cm, .slice pt tags.length ct] 41)).alloc (.cells #[.int .i64 org] 3) = w1 at hM0 hA hB ⊢
  generalize hn : w.heap.size = n at *
  refine ⟨fok115, hIx (n + 1) _ hB _ (by omega) (hmr.mod hM0 (by simp)) (fun k w2 hk hko hM2 => .inl ⟨_, rfl, hold_ops okT (rs := [.tmp 4, .tmp 5, .tmp 6]) rfl ?_⟩) (fun hno w2 hM2 => .inl ⟨_, rfl, hold_ops okT (rs := [.tmp 4, .tmp 5, .tmp 6]) rfl ?_⟩)⟩
  rotate_left
  · simp (maxSteps := 1000000) (disch := first | omega | (simp only [sizeAlloc, sizeDrew, sizeSet, sizePut] <;> omega) | fail) only [GS, TT_eq, TTl, Nat.reduceAdd, Nat.reduceMul, Nat.reduceSub, Nat.reduceDiv, Nat.reduceMod, Nat.reducePow, Nat.reduceEqDiff, ↓reduceIte, reduceCtorEq, Int.reduceToNat, Int.reduceAdd, Int.reduceSub, Int.reduceMul]
    exact h0 (.inr hno) _ (hM0.trans hM2 (by simp))
  have hM02 := hM0.trans hM2 (by simp)
  have hA2 := hM2.get hA (by simp)
  have c2 := fun o => cellOf (o := o) hA2
  have hk0 : ¬ ((k : Nat) : Int) < 0 := by omega
  simp (maxSteps := 1000000) (disch := first | omega | (simp only [sizeAlloc, sizeDrew, sizeSet, sizePut] <;> omega) | fail) only [GS, TT_eq, TTl, Nat.reduceAdd, Nat.reduceMul, Nat.reduceSub, Nat.reduceDiv, Nat.reduceMod, Nat.reducePow, Nat.reduceEqDiff, ↓reduceIte, reduceCtorEq, Int.reduceToNat, Int.reduceAdd, Int.reduceSub, Int.reduceMul, c2, hk0]
  refine ⟨fok66, hCk _ (hrW _ hM02) _ fun w3 hM3 => .inl ⟨_, rfl, hold_ops okT (rs := [.tmp 4, .tmp 5, .tmp 6]) rfl ?_⟩⟩
  have hM03 := hM02.trans hM3 (by simp)
  cases M
  · simp only [Bool.false_eq_true, if_false]
    simp (maxSteps := 1000000) (disch := first | omega | (simp only [sizeAlloc, sizeDrew, sizeSet, sizePut] <;> omega) | fail) only [GS, TT_eq, TTl, Nat.reduceAdd, Nat.reduceMul, Nat.reduceSub, Nat.reduceDiv, Nat.reduceMod, Nat.reducePow, Nat.reduceEqDiff, ↓reduceIte, reduceCtorEq, Int.reduceToNat, Int.reduceAdd, Int.reduceSub, Int.reduceMul]
    exact h0 (.inl rfl) _ hM03
  simp only [if_true]
  have hlen := (hmay rfl).2.2.2.1
  have hk2 : k < tags.length := by omega
  have hA3 := hM3.get hA2 (by simp)
  have c3 := fun o => cellOf (o := o) hA3
  obtain ⟨b1, o1, c1, e1, _, g1⟩ := (hmr.mod hM03 (by simp)).at (by omega) (by omega)
  obtain ⟨b2, o2, c4, e2, _, g2⟩ := (htr.mod hM03 (by simp)).at (by omega) (by omega)
  have hfl := fun j hj => flat_get mbC 2 mbC_len mbs k hk j hj
  have f2 := g2 k _ (getS hk2)
  have hF := fun w' hm => h1 k hk hk2 w' rfl hko hm
  generalize tags[k] = tg at f2 hF
  generalize mbs[k] = m at hfl hF
  rw [Value.slice.injEq] at e1 e2
  obtain ⟨rfl, -, -⟩ := e1
  obtain ⟨rfl, -, -⟩ := e2
  have d1 : w3.cell? ⟨b1, o1 + k * 2 + 1, none⟩ = some (.string ⟨m.2.toArray⟩) := by rw [← g1 (k * 2 + 1) _ (hfl 1 (by omega))]; rfl
  simp (maxSteps := 1000000) (disch := first | omega | (simp only [sizeAlloc, sizeDrew, sizeSet, sizePut] <;> omega) | fail) only [GS, TT_eq, TTl, Nat.reduceAdd, Nat.reduceMul, Nat.reduceSub, Nat.reduceDiv, Nat.reduceMod, Nat.reducePow, Nat.reduceEqDiff, ↓reduceIte, reduceCtorEq, Int.reduceToNat, Int.reduceAdd, Int.reduceSub, Int.reduceMul, c3, d1, f2]
  exact ⟨by kernel_rfl, fun d => hF _ (hM03.drewN d)⟩
end Go.Proofs.YtcikecociiebkaaGreatDoor
set_option linter.unusedSimpArgs false
set_option linter.unusedVariables false
set_option maxRecDepth 20000
namespace Go.Proofs.YtcikecociiebkaaGreatDoor
open Go Go.Wk Go.RowKit
attribute [local irreducible] go Hold
open Go.Lib
theorem own_sep {w : World} {b1 e1 s1 n1 b2 e2 s2 n2 : Nat} {v1 v2 : Value} {x1 x2 : List Value} (h1 : w.ownsRow b1 e1 s1 v1 n1 x1) (h2 : w.ownsRow b2 e2 s2 v2 n2 x2) (hne : e2 ≠ e1) : ∀ g, v1.ownBlock = some g → g ∉ v2.ownBlock.toList := by
  rcases h2.2 with ⟨rfl, _⟩ | ⟨g2, cap, cur, rfl, hb, hg, _⟩
  · simp [Value.ownBlock]
  · intro g hg1 hm
    simp [Value.ownBlock] at hm
    exact own_ne h1 hg hne g hg1 hm
theorem blL_in (r : Rcp) : ∀ (vs : List Value) (l : List Mb) (k : Nat) (hk : k < l.length), vs.length = l.length → ∃ v ∈ vs, ∀ j, j < 6 → (blL r vs l)[k * 6 + j]? = (blC r v l[k].1)[j]?
  | [], [], k, hk, _ => by simp at hk
  | x :: vs, y :: l, 0, hk, h => by
    refine ⟨x, by simp, fun j hj => ?_⟩
    have : j < (blC r x y.1).length := by simp [blC]; omega
    simp only [blL, Nat.zero_mul, Nat.zero_add, List.getElem_cons_zero]
    rw [List.getElem?_append_left this]
  | x :: vs, y :: l, k + 1, hk, h => by
    simp only [List.length_cons, Nat.add_right_cancel_iff] at h hk
    obtain ⟨v, hm, hv⟩ := blL_in r vs l k (by omega) h
    refine ⟨v, by simp [hm], fun j hj => ?_⟩
    have e : (k + 1) * 6 + j = (blC r x y.1).length + (k * 6 + j) := by simp [blC]; omega
    simp only [blL, List.getElem_cons_succ]
    rw [e, List.getElem?_append_right (by omega), Nat.add_sub_cancel_left]
    exact hv j hj
  | [], _ :: _, _, _, h => by simp at h
  | _ :: _, [], _, _, h => by simp at h
set_option maxRecDepth 20000 in
set_option maxHeartbeats 4000000 in
theorem eClone2_cps (sm : Value) (l : List Mb) (w : World) (hl : l.length ≤ 1000000) (ha : Rd w 2 sm l.length (l.flatMap mbC)) (R : Ending → World → Prop) (hR : ∀ sv w', w'.ownsRow w.heap.size 48 2 sv l.length (l.flatMap mbC) → Mod [] w w' → R (.returned sv) w') : Calls Tryz.prog 81 #[sm] w R := by
  obtain ⟨a, c, rfl⟩ := ha.slice
  refine calls_go 4000 okT Tryz.func81 rfl (rs := [.tmp 2]) rfl Tryz.ntmps81 (args := [.slice a l.length c]) ?_
  cases a with
  | none =>
    simp (maxSteps := 1000000) (disch := first | omega | (simp only [sizeAlloc, sizeDrew, sizeSet, sizePut] <;> omega) | fail) only [GS, TT_eq, TTl, Nat.reduceAdd, Nat.reduceMul, Nat.reduceSub, Nat.reduceDiv, Nat.reduceMod, Nat.reducePow, Nat.reduceEqDiff, ↓reduceIte, reduceCtorEq, Int.reduceToNat, Int.reduceAdd, Int.reduceSub, Int.reduceMul]
    have h0 : l.length = 0 := by
      apply Classical.byContradiction
      intro h
      obtain ⟨b, o, cap, e, _⟩ := ha.at (by omega) (by omega)
      simp at e
    rw [List.length_eq_zero_iff.1 h0] at hR
    exact hR _ _ (World.ownsRow_nil _ _ _ _) (Mod.refl _ _)
  | some ad =>
    simp (maxSteps := 1000000) (disch := first | omega | (simp only [sizeAlloc, sizeDrew, sizeSet, sizePut] <;> omega) | fail) only [GS, TT_eq, TTl, Nat.reduceAdd, Nat.reduceMul, Nat.reduceSub, Nat.reduceDiv, Nat.reduceMod, Nat.reducePow, Nat.reduceEqDiff, ↓reduceIte, reduceCtorEq, Int.reduceToNat, Int.reduceAdd, Int.reduceSub, Int.reduceMul]
    have hz := zeroRow (w := w) (e := 48) (base := w.heap.size) (size := 2) (Nat.le_refl _)
    have hM0 := (Mod.refl [] w).alloc (.cells #[] 48)
    have ha1 := ha.mod hM0 (by simp)
    refine hold_appendR okT rfl rfl rfl rfl (by decide) w.heap.size hz rfl rfl ha1 (by intro u hu; obtain ⟨z, _, hz⟩ := List.mem_flatMap.1 hu; simp only [mbC, List.mem_cons, List.not_mem_nil, or_false] at hz; rcases hz with rfl | rfl <;> rfl) (by simp only; omega) (by unfold maxLen; omega) (by rw [sizeAlloc]; omega) fun sv w2 hown hM2 => hold_ops okT (rs := [.tmp 2]) rfl ?_
    have hsv := ownsRow_one hown
    simp (maxSteps := 1000000) (disch := first | omega | (simp only [sizeAlloc, sizeDrew, sizeSet, sizePut] <;> omega) | fail) only [GS, TT_eq, TTl, Nat.reduceAdd, Nat.reduceMul, Nat.reduceSub, Nat.reduceDiv, Nat.reduceMod, Nat.reducePow, Nat.reduceEqDiff, ↓reduceIte, reduceCtorEq, Int.reduceToNat, Int.reduceAdd, Int.reduceSub, Int.reduceMul, cellsL_one hsv, hsv]
    rw [Nat.zero_add, List.nil_append] at hown
    exact hR sv _ hown (hM0.trans hM2 (fun y hy => .inr (by simp [Value.ownBlock] at hy; omega)))
set_option maxRecDepth 20000 in
set_option maxHeartbeats 16000000 in
theorem eBallots2_cps (r : Rcp) (sm st : Value) (w : World) (hr : RcpIn w r sm st) (R : Ending → World → Prop)
    (hR : ∀ sv vs w', mayR r = true → vs.length = r.mbs.length → (∀ v ∈ vs, w'.ownsRow w.heap.size 48 2 v r.mbs.length (r.mbs.flatMap mbC)) → w'.ownsRow w.heap.size 52 6 sv r.mbs.length (blL r vs r.mbs) → Mod [] w w' → R (.returned sv) w') (hN : mayR r = false → ∀ w', Mod [] w w' → R (.returned (.slice none 0 0)) w') :
    Calls Tryz.prog 38 #[rcV r sm st] w R := by
  have hCk := eCheck_cps r sm st
  have hCl := eClone2_cps sm r.mbs
  have hmr := hr.mrd
  have hml := hr.mlen
  have hrW : ∀ w', Mod [] w w' → RcpIn w' r sm st := fun w' hM => hr.mod hM
  have osm : sm.oneCell' = true := by obtain ⟨a, c, e⟩ := hr.mrd.slice; rw [e]; rfl
  have ost : st.oneCell' = true := by obtain ⟨a, c, e⟩ := hr.trd.slice; rw [e]; rfl
  have hmy : ∀ b, mayR r = b → mayR r = b := fun _ h => h
  generalize hM : mayR r = M at hCk hR hN
  clear hr hmy hM
  have hblS := blL_snoc r
  have hbl0 : blL r [] [] = [] := rfl
  have hblc : ∀ v o, blC r v o = [.int .i64 r.tx.1, .int .i64 r.tx.2.1, .int .i64 r.tx.2.2, .int .i64 r.aud, v, .int .i64 o] := fun _ _ => rfl
  generalize blL r = BL at hR hblS hbl0
  generalize blC r = BC at hblS hblc
  unfold rcV rcC at hCk ⊢
  obtain ⟨⟨xa, xb, xc⟩, xd, mbs, tags⟩ := r
  simp only at hCk hCl hmr hml hR hblc ⊢
  obtain ⟨pm, cm, rfl⟩ := hmr.slice
  refine calls_go 4000 okT Tryz.func38 rfl (rs := [.tmp 2]) rfl Tryz.ntmps38 (args := [.agg #[.int .i64 xa, .int .i64 xb, .int .i64 xc, .int .i64 xd, .slice pm mbs.length cm, st]]) ?_
  simp (maxSteps := 1000000) (disch := first | omega | (simp only [sizeAlloc, sizeDrew, sizeSet, sizePut] <;> omega) | fail) only [GS, TT_eq, TTl, Nat.reduceAdd, Nat.reduceMul, Nat.reduceSub, Nat.reduceDiv, Nat.reduceMod, Nat.reducePow, Nat.reduceEqDiff, ↓reduceIte, reduceCtorEq, Int.reduceToNat, Int.reduceAdd, Int.reduceSub, Int.reduceMul, ost, cellsL_one ost]
  have hM0 := (Mod.refl [] w).alloc (.cells #[.int .i64 xa, .int .i64 xb, .int .i64 xc, .int .i64 xd, .slice pm mbs.length cm, st] 41)
  have hA := heapNew (w := w) (o := .cells #[.int .i64 xa, .int .i64 xb, .int .i64 xc, .int .i64 xd, .slice pm mbs.length cm, st] 41)
  generalize w.alloc (.cells #[.int .i64 xa, .int .i64 xb, .int .i64 xc, .int .i64 xd, .slice pm mbs.length cm, st] 41) = w1 at hM0 hA ⊢
  generalize hn : w.heap.size = n at *
  refine ⟨fok66, hCk _ (hrW _ hM0) _ fun w2 hM2 => .inl ⟨_, rfl, hold_ops okT (rs := [.tmp 2]) rfl ?_⟩⟩
  have hA2 := hM2.get hA (by simp)
  have hM02 := hM0.trans hM2 (by simp)
  have c2 := fun o => cellOf (o := o) hA2
  cases M
  · simp only [Bool.false_eq_true, if_false]
    simp (maxSteps := 1000000) (disch := first | omega | (simp only [sizeAlloc, sizeDrew, sizeSet, sizePut] <;> omega) | fail) only [GS, TT_eq, TTl, Nat.reduceAdd, Nat.reduceMul, Nat.reduceSub, Nat.reduceDiv, Nat.reduceMod, Nat.reducePow, Nat.reduceEqDiff, ↓reduceIte, reduceCtorEq, Int.reduceToNat, Int.reduceAdd, Int.reduceSub, Int.reduceMul]
    exact hN rfl _ hM02
  simp only [if_true]
  have hs0 := hM02.size
  simp (maxSteps := 1000000) (disch := first | omega | (simp only [sizeAlloc, sizeDrew, sizeSet, sizePut] <;> omega) | fail) only [GS, TT_eq, TTl, Nat.reduceAdd, Nat.reduceMul, Nat.reduceSub, Nat.reduceDiv, Nat.reduceMod, Nat.reducePow, Nat.reduceEqDiff, ↓reduceIte, reduceCtorEq, Int.reduceToNat, Int.reduceAdd, Int.reduceSub, Int.reduceMul, c2]
  refine hold_loop okT (rs := [.tmp 2]) rfl [2, 10] [3, 11, 12, 13, 14, 15, 16, 17, 18, 19, 20, 21, 22, 23, 24, 25, 26, 27, 28, 29, 30] (fun vs w' => ∃ (k : Nat) (sv : Value) (us : List Value), vs = [sv, .int .i64 k] ∧ k ≤ mbs.length ∧ us.length = k ∧ (∀ v ∈ us, w'.ownsRow w2.heap.size 48 2 v mbs.length (mbs.flatMap mbC)) ∧ w'.ownsRow w2.heap.size 52 6 sv k (BL us (mbs.take k)) ∧ Mod [] w2 w') (fun vs _ => match vs with | [_, .int _ i] => mbs.length - i.toNat | _ => 0) (by kernel_rfl) ⟨0, .slice none 0 0, [], rfl, by omega, rfl, by simp, by rw [List.take_zero, hbl0]; exact World.ownsRow_nil _ _ _ _, Mod.refl _ _⟩ ?_
  rintro vs w3 J ⟨k, sv, us, rfl, hk, hus, hou, hown, hM3⟩
  have hM03 := hM02.trans hM3 (by simp)
  have hA3 := hM3.get hA2 (by simp)
  have hcl := ownsRow_one hown
  obtain ⟨va, vc, rfl⟩ := (Rd.own hown).slice
  by_cases hlt : k < mbs.length
  · have hrd := hmr.mod hM03 (by simp)
    obtain ⟨b1, o1, c1, e1, _, g1⟩ := hrd.at (by omega) (by omega)
    have hfl := fun j hj => flat_get mbC 2 mbC_len mbs k hlt j hj
    have htk := List.take_succ_eq_append_getElem hlt
    generalize mbs[k] = m at hfl htk
    obtain ⟨mo, md⟩ := m
    rw [Value.slice.injEq] at e1
    obtain ⟨rfl, -, -⟩ := e1
    have d0 : w3.cell? ⟨b1, o1 + k * 2, none⟩ = some (.int .i64 mo) := by rw [← g1 (k * 2) _ (hfl 0 (by omega))]
    have c3 := fun o => cellOf (o := o) hA3
    simp (maxSteps := 1000000) (disch := first | omega | (simp only [sizeAlloc, sizeDrew, sizeSet, sizePut] <;> omega) | fail) only [GS, TT_eq, TTl, Nat.reduceAdd, Nat.reduceMul, Nat.reduceSub, Nat.reduceDiv, Nat.reduceMod, Nat.reducePow, Nat.reduceEqDiff, ↓reduceIte, reduceCtorEq, Int.reduceToNat, Int.reduceAdd, Int.reduceSub, Int.reduceMul, c3, d0]
    refine hold_draw okT (rs := [.tmp 2]) rfl [0, 0, 2, 0, 8, 0, 32, 96, 0, 256, 0, 1792, 3840, 7936, 16382, 32766, 65535, 131071] [0, 1, 2, 3, 4, 5, 6, 8, 9, 10, 11, 12, 13, 7, 14, 15, 16, 17] (by kernel_rfl) (by kernel_rfl) ?_
    have hA4 : (w3.drewN 1).heap[n]? = _ := hA3
    have d4 : (w3.drewN 1).cell? ⟨b1, o1 + k * 2, none⟩ = some (.int .i64 mo) := d0
    have hM34 := (Mod.refl [] w3).drewN 1
    have hown4 := ownsRow_mod hown hM34 (by simp)
    generalize w3.drewN 1 = w4 at *
    have c4 := fun o => cellOf (o := o) hA4
    have e3 : w4.cell? ⟨n, 3, none⟩ = some (.int .i64 xd) := c4 3
    have e4 : w4.cell? ⟨n, 4, none⟩ = some (.slice (some ⟨b1, o1, none⟩) mbs.length cm) := c4 4
    have hag : ∀ w' : World, Mod [] w4 w' → aggO (consO (w'.cell? ⟨n, 0, none⟩) (consO (w'.cell? ⟨n, 1, none⟩) (consO (w'.cell? ⟨n, 2, none⟩) (some [])))) = some (.agg #[.int .i64 xa, .int .i64 xb, .int .i64 xc]) := by
      intro w' hm
      rw [cellM (show w4.cell? ⟨n, 0, none⟩ = some (.int .i64 xa) from c4 0) hm, cellM (show w4.cell? ⟨n, 1, none⟩ = some (.int .i64 xb) from c4 1) hm, cellM (show w4.cell? ⟨n, 2, none⟩ = some (.int .i64 xc) from c4 2) hm]
      rfl
    simp (maxSteps := 1000000) (disch := first | omega | (simp only [sizeAlloc, sizeDrew, sizeSet, sizePut] <;> omega) | fail) only [GS, TT_eq, TTl, Nat.reduceAdd, Nat.reduceMul, Nat.reduceSub, Nat.reduceDiv, Nat.reduceMod, Nat.reducePow, Nat.reduceEqDiff, ↓reduceIte, reduceCtorEq, Int.reduceToNat, Int.reduceAdd, Int.reduceSub, Int.reduceMul, c4, d4]
    refine ⟨fok81, hCl _ hml (hmr.mod (hM03.trans hM34 (by simp)) (by simp)) _ fun v w5 hvo hM5 => .inl ⟨_, rfl, ?_⟩⟩
    refine ⟨(by repeat' (first | exact hag _ hM5 | exact cellM d4 hM5 | exact cellM e3 hM5 | exact cellM e4 hM5 | apply And.intro)), hold_dops okT (rs := [.tmp 2]) rfl ?_⟩
    have hown5 := ownsRow_mod hown4 hM5 (by simp)
    have hM35 := hM34.trans hM5 (by simp)
    have hM25 := hM3.trans hM35 (by simp)
    have hv := ownsRow_one hvo
    have hvo5 := ownsRow_base hvo (hM3.trans hM34 (by simp)).size
    have hou5 := fun u hu => ownsRow_mod (hou u hu) hM35 (by simp)
    simp (maxSteps := 1000000) (disch := first | omega | (simp only [sizeAlloc, sizeDrew, sizeSet, sizePut] <;> omega) | fail) only [GS, TT_eq, TTl, Nat.reduceAdd, Nat.reduceMul, Nat.reduceSub, Nat.reduceDiv, Nat.reduceMod, Nat.reducePow, Nat.reduceEqDiff, ↓reduceIte, reduceCtorEq, Int.reduceToNat, Int.reduceAdd, Int.reduceSub, Int.reduceMul, hv, cellsL_one hv]
    refine hold_dappendN okT rfl rfl rfl rfl (by decide) w2.heap.size hown5 rfl rfl (news := [.int .i64 xa, .int .i64 xb, .int .i64 xc, .int .i64 xd, v, .int .i64 mo]) rfl (by decide) (by intro u hu; simp only [List.mem_cons, List.not_mem_nil, or_false] at hu; rcases hu with rfl | rfl | rfl | rfl | rfl | rfl <;> first | rfl | exact hv) (by simp only; omega) (by unfold maxLen; omega) hM25.size fun v' w7 hown7 hM7 _ => ⟨?_, hold_dops okT (rs := [.tmp 2]) rfl ?_⟩
    · simp (maxSteps := 1000000) only [GS, TT_eq, TTl, Nat.reduceAdd, Nat.reduceMul, Nat.reduceSub, Nat.reduceDiv, Nat.reduceMod, Nat.reducePow, Nat.reduceEqDiff, ↓reduceIte, reduceCtorEq, Int.reduceToNat, Int.reduceAdd, Int.reduceSub, Int.reduceMul]
    have hob : ∀ y ∈ (Value.slice va k vc).ownBlock.toList, w2.heap.size ≤ y := fun y hy => (hown5.lt y (by simpa using hy)).1
    have hM27 := hM25.trans hM7 (fun y hy => .inr (hob y hy))
    simp (maxSteps := 1000000) (disch := first | omega | (simp only [sizeAlloc, sizeDrew, sizeSet, sizePut] <;> omega) | fail) only [GS, TT_eq, TTl, Nat.reduceAdd, Nat.reduceMul, Nat.reduceSub, Nat.reduceDiv, Nat.reduceMod, Nat.reducePow, Nat.reduceEqDiff, ↓reduceIte, reduceCtorEq, Int.reduceToNat, Int.reduceAdd, Int.reduceSub, Int.reduceMul]
    refine ⟨⟨k + 1, _, us ++ [v], rfl, by omega, by rw [List.length_append]; simp; omega, ?_, ?_, hM27⟩, by omega⟩
    · intro u hu
      rcases List.mem_append.1 hu with hu | hu
      · exact ownsRow_mod' (hou5 u hu) hM7 (own_sep (hou5 u hu) hown5 (by decide))
      · rw [List.mem_singleton.1 hu]
        exact ownsRow_mod' hvo5 hM7 (own_sep hvo5 hown5 (by decide))
    rw [htk, hblS us (mbs.take k) v (mo, md) (by rw [hus, List.length_take]; omega), hblc]
    exact hown7
  · have e : k = mbs.length := by omega
    subst e
    rw [List.take_length] at hown
    simp (maxSteps := 1000000) (disch := first | omega | (simp only [sizeAlloc, sizeDrew, sizeSet, sizePut] <;> omega) | fail) only [GS, TT_eq, TTl, Nat.reduceAdd, Nat.reduceMul, Nat.reduceSub, Nat.reduceDiv, Nat.reduceMod, Nat.reducePow, Nat.reduceEqDiff, ↓reduceIte, reduceCtorEq, Int.reduceToNat, Int.reduceAdd, Int.reduceSub, Int.reduceMul]
    exact hR _ us _ rfl hus (fun v hv => ownsRow_base (hou v hv) (by omega)) (ownsRow_base hown (by omega)) hM03
end Go.Proofs.YtcikecociiebkaaGreatDoor
set_option linter.unusedSimpArgs false
set_option linter.unusedVariables false
set_option maxRecDepth 20000
namespace Go.Proofs.YtcikecociiebkaaGreatDoor
open Go Go.Wk Go.RowKit
attribute [local irreducible] go Hold
open Go.Lib
theorem rdBlk {w : World} {b e n size : Nat} {xs : List Value} (h : w.heap[b]? = some (.cells xs.toArray e (0, 0))) (hn : xs.length = n * size) : Rd w size (.slice (some ⟨b, 0, none⟩) n n) n xs := by
  refine ⟨hn, some ⟨b, 0, none⟩, n, rfl, Nat.le_refl _, fun j u hj => ⟨b, 0, rfl, ?_⟩⟩
  rw [cellOf h, Nat.zero_add]
  simpa using hj
theorem st6z {w : World} {p t : Nat} {fr : Nat × Nat} {a0 a1 a2 a3 a4 a5 x0 x1 x2 x3 x4 x5 : Value} (hz : w.heap[p]? = some (.cells #[a0, a1, a2, a3, a4, a5] t fr)) : ((((((w.setCell ⟨p, 0, none⟩ (x0)).setCell ⟨p, 1, none⟩ (x1)).setCell ⟨p, 2, none⟩ (x2)).setCell ⟨p, 3, none⟩ (x3)).setCell ⟨p, 4, none⟩ (x4)).setCell ⟨p, 5, none⟩ (x5)).heap[p]? = some (.cells #[x0, x1, x2, x3, x4, x5] t fr) := by
  have h0 : (w.setCell ⟨p, 0, none⟩ x0).heap[p]? = some (.cells #[x0, a1, a2, a3, a4, a5] t fr) := by rw [heapSet hz]; rfl
  revert h0
  generalize w.setCell ⟨p, 0, none⟩ x0 = w0
  intro h0
  have h1 : (w0.setCell ⟨p, 1, none⟩ x1).heap[p]? = some (.cells #[x0, x1, a2, a3, a4, a5] t fr) := by rw [heapSet h0]; rfl
  revert h1
  generalize w0.setCell ⟨p, 1, none⟩ x1 = w1
  intro h1
  have h2 : (w1.setCell ⟨p, 2, none⟩ x2).heap[p]? = some (.cells #[x0, x1, x2, a3, a4, a5] t fr) := by rw [heapSet h1]; rfl
  revert h2
  generalize w1.setCell ⟨p, 2, none⟩ x2 = w2
  intro h2
  have h3 : (w2.setCell ⟨p, 3, none⟩ x3).heap[p]? = some (.cells #[x0, x1, x2, x3, a4, a5] t fr) := by rw [heapSet h2]; rfl
  revert h3
  generalize w2.setCell ⟨p, 3, none⟩ x3 = w3
  intro h3
  have h4 : (w3.setCell ⟨p, 4, none⟩ x4).heap[p]? = some (.cells #[x0, x1, x2, x3, x4, a5] t fr) := by rw [heapSet h3]; rfl
  revert h4
  generalize w3.setCell ⟨p, 4, none⟩ x4 = w4
  intro h4
  have h5 : (w4.setCell ⟨p, 5, none⟩ x5).heap[p]? = some (.cells #[x0, x1, x2, x3, x4, x5] t fr) := by rw [heapSet h4]; rfl
  revert h5
  generalize w4.setCell ⟨p, 5, none⟩ x5 = w5
  intro h5
  exact h5
theorem modSet6z {F : List Nat} {v w : World} {p : Nat} {x0 x1 x2 x3 x4 x5 : Value} (h : Mod F v w) (hn : p ∈ F ∨ v.heap.size ≤ p) : Mod F v ((((((w.setCell ⟨p, 0, none⟩ (x0)).setCell ⟨p, 1, none⟩ (x1)).setCell ⟨p, 2, none⟩ (x2)).setCell ⟨p, 3, none⟩ (x3)).setCell ⟨p, 4, none⟩ (x4)).setCell ⟨p, 5, none⟩ (x5)) := ((((((h).set (p := ⟨p, 0, none⟩) hn x0).set (p := ⟨p, 1, none⟩) hn x1).set (p := ⟨p, 2, none⟩) hn x2).set (p := ⟨p, 3, none⟩) hn x3).set (p := ⟨p, 4, none⟩) hn x4).set (p := ⟨p, 5, none⟩) hn x5
end Go.Proofs.YtcikecociiebkaaGreatDoor
set_option linter.unusedSimpArgs false
set_option linter.unusedVariables false
set_option maxRecDepth 20000
namespace Go.Proofs.YtcikecociiebkaaGreatDoor
open Go Go.Wk Go.RowKit
attribute [local irreducible] go Hold
open Go.Lib
theorem vBox6 {w W : World} {t : Nat} {a0 a1 a2 a3 a4 a5 : Value} (h : w.alloc (.cells #[a0, a1, a2, a3, a4, a5] t) = W) : W.heap[w.heap.size]? = some (.cells #[a0, a1, a2, a3, a4, a5] t (0, 0)) ∧ Mod [] w W := by
  subst h
  exact ⟨heapNew, (Mod.refl [] w).alloc _⟩
theorem load6v {w : World} {p : Nat} {K : Value → World → Prop} {x0 x1 x2 x3 x4 x5 : Value} (hh : w.heap[p]? = some (.cells #[x0, x1, x2, x3, x4, x5] 41 (0, 0))) (hK : K (.agg #[x0, x1, x2, x3, x4, x5]) w) : loadW TT 41 (.pointer (some ⟨p, 0, none⟩)) w K := by
  have c := fun o => cellOf (o := o) hh
  exact ⟨_, c 0, _, c 1, _, c 2, _, c 3, _, c 4, _, c 5, hK⟩
set_option maxRecDepth 20000 in
set_option maxHeartbeats 64000000 in
theorem vVerify_cps (vp : Nat) (aud : Int) (ks : List Tm) (S : Tm) (hS : S.length ≤ maxLen) (w : World) (hv : VerAt w vp aud ks) (hkl : ks.length ≤ 1000000) (hks : ∀ k ∈ ks, k.length ≤ 1000000) (R : Ending → World → Prop)
    (h1 : ∀ r sm st w', vfyF ks aud S = .ok r → w'.ownsRow w.heap.size 48 2 sm r.mbs.length (r.mbs.flatMap mbC) → w'.ownsRow w.heap.size 9 1 st r.tags.length (r.tags.map strV) → Mod [] w w' → R (.returned (.tuple #[rcV r sm st, .int .i64 0, .int .i64 0])) w')
    (h0 : ∀ (k : Nat) c w', vfyF ks aud S = .error (k, c) → ¬ c = 0 → Mod [] w w' → R (.returned (.tuple #[rcZ, .int .i64 k, .int .i64 c])) w') :
    Calls Tryz.prog 12 #[.pointer (some ⟨vp, 0, none⟩), .string ⟨S.toArray⟩] w R := by
  have hv0 := hv
  obtain ⟨s, ka, hB, hs, hrd⟩ := hv
  refine calls_go 4000 okT Tryz.func12 rfl (rs := [.cell 4 41, .tmp 5, .tmp 6]) rfl Tryz.ntmps12 (args := [.pointer (some ⟨vp, 0, none⟩), .string ⟨S.toArray⟩]) ?_
  simp (maxSteps := 1000000) (disch := first | omega | (simp only [sizeAlloc, sizeDrew, sizeSet, sizePut] <;> omega) | fail) only [GS, TT_eq, TTl, Nat.reduceAdd, Nat.reduceMul, Nat.reduceSub, Nat.reduceDiv, Nat.reduceMod, Nat.reducePow, Nat.reduceEqDiff, ↓reduceIte, reduceCtorEq, Int.reduceToNat, Int.reduceAdd, Int.reduceSub, Int.reduceMul]
  generalize hW : w.alloc (.cells #[.int .i64 0, .int .i64 0, .int .i64 0, .int .i64 0, .slice none 0 0, .slice none 0 0] 41) = w1
  obtain ⟨hA, hM0⟩ := vBox6 hW
  clear hW
  generalize hn : w.heap.size = n at *
  have hsz1 : n < w1.heap.size := (Array.getElem?_eq_some_iff.1 hA).1
  have hdd : ∀ e, decRc S = e → vfyF ks aud S = (match e with
    | .error c => .error (0, c)
    | .ok r => if r.aud ≠ aud then .error (0, 270) else match badF (wrgK ks r) r.mbs.length with
      | some k => .error (k, wrgK ks r k)
      | none => .ok r) := fun e h => by subst h; rfl
  refine ⟨fok37, eDecode_cps S hS _ _ (fun r sm st w2 hr hm ht hM2 => .inl ⟨_, rfl, hold_stop (s' := some 4) (hold_ops okT (rs := [.cell 4 41, .tmp 5, .tmp 6]) rfl ?_)⟩) (fun c w2 hc hM2 => .inl ⟨_, rfl, hold_stop (s' := some 4) (hold_ops okT (rs := [.cell 4 41, .tmp 5, .tmp 6]) rfl ?_)⟩)⟩
  rotate_left
  · have hc0 : ¬ c = 0 := by have := (decRc_err hc).1; omega
    have hv1 := hdd _ hc
    simp only at hv1
    have hA2 := hM2.get hA (by simp)
    have hM02 := hM0.trans hM2 (by simp)
    unfold rcZ
    simp (maxSteps := 1000000) (disch := first | omega | (simp only [sizeAlloc, sizeDrew, sizeSet, sizePut] <;> omega) | fail) only [GS, TT_eq, TTl, Nat.reduceAdd, Nat.reduceMul, Nat.reduceSub, Nat.reduceDiv, Nat.reduceMod, Nat.reducePow, Nat.reduceEqDiff, ↓reduceIte, reduceCtorEq, Int.reduceToNat, Int.reduceAdd, Int.reduceSub, Int.reduceMul]
    generalize hW_ : (((((((w2.alloc (.cells #[(.int .i64 0), (.int .i64 0), (.int .i64 0), (.int .i64 0), (.slice none 0 0), (.slice none 0 0)] 41)).setCell ⟨w2.heap.size, 0, none⟩ (.int .i64 0)).setCell ⟨w2.heap.size, 1, none⟩ (.int .i64 0)).setCell ⟨w2.heap.size, 2, none⟩ (.int .i64 0)).setCell ⟨w2.heap.size, 3, none⟩ (.int .i64 0)).setCell ⟨w2.heap.size, 4, none⟩ (.slice none 0 0)).setCell ⟨w2.heap.size, 5, none⟩ (.slice none 0 0)) = w3
    obtain ⟨hX, hM3⟩ : w3.heap[w2.heap.size]? = some (.cells #[(.int .i64 0), (.int .i64 0), (.int .i64 0), (.int .i64 0), (.slice none 0 0), (.slice none 0 0)] 41 (0, 0)) ∧ Mod [] w2 w3 := by
      subst hW_
      exact ⟨st6z heapNew, modSet6z ((Mod.refl [] w2).alloc _) (.inr (Nat.le_refl _))⟩
    clear hW_
    generalize hq_q : w2.heap.size = q at *
    have hA3 := hM3.get hA2 (by simp)
    have hM03 := hM02.trans hM3 (by simp)
    have ca := fun o => cellOf (o := o) hA3
    have xa := fun o => frozenOf (o := o) hA3
    refine hold_stop (s' := none) ?_
    refine hold_code okT (rs := [.cell 4 41, .tmp 5, .tmp 6]) rfl ?_
    simp (maxSteps := 1000000) (disch := first | omega | (simp only [sizeAlloc, sizeDrew, sizeSet, sizePut] <;> omega) | fail) only [GS, TT_eq, TTl, Nat.reduceAdd, Nat.reduceMul, Nat.reduceSub, Nat.reduceDiv, Nat.reduceMod, Nat.reducePow, Nat.reduceEqDiff, ↓reduceIte, reduceCtorEq, Int.reduceToNat, Int.reduceAdd, Int.reduceSub, Int.reduceMul, hc0, ca, xa]
    exact load6v (st6z hA3) (h0 0 c _ hv1 hc0 (modSet6z hM03 (.inr (by omega))))
  · have hok := of_rc hr
    have hmay := hok.2.1
    have hv1 := hdd _ hr
    have hin : ∀ w', Rd w' 2 sm r.mbs.length (r.mbs.flatMap mbC) → Rd w' 1 st r.tags.length (r.tags.map strV) → RcpIn w' r sm st := fun w' => rcpIn_of hmay
    obtain ⟨-, -, hmB, htl, -⟩ := may_is hmay
    have h1r := h1 r
    have hBl := fun w' h => eBallots2_cps r sm st w' h
    have hbl := blL_in r
    have hbC : ∀ v o, blC r v o = [.int .i64 r.tx.1, .int .i64 r.tx.2.1, .int .i64 r.tx.2.2, .int .i64 r.aud, v, .int .i64 o] := fun _ _ => rfl
    have hmd : ∀ m ∈ r.mbs, m.2.length ≤ maxLen := (hin _ (Rd.own hm) (Rd.own ht)).mdig
    have hml6 : r.mbs.length ≤ 6 := by
      unfold mbB at hmB
      rw [Bool.and_eq_true] at hmB
      have := of_decide_eq_true hmB.2
      omega
    have hmo : ∀ m ∈ r.mbs, 0 ≤ m.1 := fun m hm' => by
      unfold mbB at hmB
      rw [Bool.and_eq_true] at hmB
      have := mbs_el hmB.1 m hm'
      omega
    have hwK : ∀ k (hk : k < r.mbs.length) (hk2 : k < r.tags.length), wrgK ks r k = wrgF ks r.tx r.aud r.mbs r.mbs[k].1 r.tags[k] := fun k hk hk2 => by
      unfold wrgK
      rw [List.getD_eq_getElem?_getD, List.getElem?_eq_getElem hk, Option.getD_some, List.getD_eq_getElem?_getD, List.getElem?_eq_getElem hk2, Option.getD_some]
    simp only at hv1
    generalize wrgK ks r = wk at *
    obtain ⟨⟨ra, rb, rc⟩, rau, mbs, tags⟩ := r
    unfold rcV rcC at h1r hBl ⊢
    simp only at h1r hBl hbC hin hm ht hmd htl hwK hmB hmo hml6 hv1 ⊢
    have om := ownsRow_one hm
    have ot := ownsRow_one ht
    have hA2 := hM2.get hA (by simp)
    have hM02 := hM0.trans hM2 (by simp)
    have hsz2 := hM2.size
    simp (maxSteps := 1000000) (disch := first | omega | (simp only [sizeAlloc, sizeDrew, sizeSet, sizePut] <;> omega) | fail) only [GS, TT_eq, TTl, Nat.reduceAdd, Nat.reduceMul, Nat.reduceSub, Nat.reduceDiv, Nat.reduceMod, Nat.reducePow, Nat.reduceEqDiff, ↓reduceIte, reduceCtorEq, Int.reduceToNat, Int.reduceAdd, Int.reduceSub, Int.reduceMul, cellsL_one om, om, cellsL_one ot, ot]
    generalize hW_ : (((((((w2.alloc (.cells #[(.int .i64 0), (.int .i64 0), (.int .i64 0), (.int .i64 0), (.slice none 0 0), (.slice none 0 0)] 41)).setCell ⟨w2.heap.size, 0, none⟩ (.int .i64 ra)).setCell ⟨w2.heap.size, 1, none⟩ (.int .i64 rb)).setCell ⟨w2.heap.size, 2, none⟩ (.int .i64 rc)).setCell ⟨w2.heap.size, 3, none⟩ (.int .i64 rau)).setCell ⟨w2.heap.size, 4, none⟩ sm).setCell ⟨w2.heap.size, 5, none⟩ st) = w3
    obtain ⟨hX, hM3⟩ : w3.heap[w2.heap.size]? = some (.cells #[(.int .i64 ra), (.int .i64 rb), (.int .i64 rc), (.int .i64 rau), sm, st] 41 (0, 0)) ∧ Mod [] w2 w3 := by
      subst hW_
      exact ⟨st6z heapNew, modSet6z ((Mod.refl [] w2).alloc _) (.inr (Nat.le_refl _))⟩
    clear hW_
    generalize hq_q : w2.heap.size = q at *
    have hA3 := hM3.get hA2 (by simp)
    have hM03 := hM02.trans hM3 (by simp)
    have hm3 := ownsRow_mod hm hM3 (by simp)
    have ht3 := ownsRow_mod ht hM3 (by simp)
    have hB3 := hM03.get hB (by simp)
    have ca := fun o => cellOf (o := o) hA3
    have xa := fun o => frozenOf (o := o) hA3
    have cx := fun o => cellOf (o := o) hX
    have cb := fun o => cellOf (o := o) hB3
    refine hold_stop (s' := none) ?_
    refine hold_code okT (rs := [.cell 4 41, .tmp 5, .tmp 6]) rfl ?_
    by_cases hau : rau = aud
    rotate_left
    · rw [if_pos hau] at hv1
      simp (maxSteps := 1000000) (disch := first | omega | (simp only [sizeAlloc, sizeDrew, sizeSet, sizePut] <;> omega) | fail) only [GS, TT_eq, TTl, Nat.reduceAdd, Nat.reduceMul, Nat.reduceSub, Nat.reduceDiv, Nat.reduceMod, Nat.reducePow, Nat.reduceEqDiff, ↓reduceIte, reduceCtorEq, Int.reduceToNat, Int.reduceAdd, Int.reduceSub, Int.reduceMul, ca, xa, cx, cb, hau]
      refine ⟨by kernel_rfl, fun m => ?_⟩
      exact load6v (((Mod.refl [] _).drewN m).get (st6z hA3) (by simp)) (h0 0 270 _ hv1 (by omega) ((modSet6z hM03 (.inr (by omega))).drewN m))
    · subst hau
      rw [if_neg (fun h => h rfl)] at hv1
      simp (maxSteps := 1000000) (disch := first | omega | (simp only [sizeAlloc, sizeDrew, sizeSet, sizePut] <;> omega) | fail) only [GS, TT_eq, TTl, Nat.reduceAdd, Nat.reduceMul, Nat.reduceSub, Nat.reduceDiv, Nat.reduceMod, Nat.reducePow, Nat.reduceEqDiff, ↓reduceIte, reduceCtorEq, Int.reduceToNat, Int.reduceAdd, Int.reduceSub, Int.reduceMul, cx, cb]
      refine ⟨by kernel_rfl, fun m => ?_⟩
      have hM34 := (Mod.refl [] w3).drewN m
      generalize w3.drewN m = w4 at *
      have hM04 := hM03.trans hM34 (by simp)
      have hX4 := hM34.get hX (by simp)
      have cx4 := fun o => cellOf (o := o) hX4
      have hm4 := ownsRow_mod hm3 hM34 (by simp)
      have ht4 := ownsRow_mod ht3 hM34 (by simp)
      refine ⟨fok38, hBl w4 (hin _ (Rd.own hm4) (Rd.own ht4)) _ (fun sv vs w5 _ hvl hvs hsv hM5 => .inl ⟨_, rfl, hold_ops okT (rs := [.cell 4 41, .tmp 5, .tmp 6]) rfl ?_⟩) (fun hno _ _ => absurd hmay (by rw [hno]; simp))⟩
      have osv := ownsRow_one hsv
      have hrb := Rd.own hsv
      obtain ⟨pb, cpb, rfl⟩ := hrb.slice
      have hM05 := hM04.trans hM5 (by simp)
      have hX5 := hM5.get hX4 (by simp)
      have hA5 := hM5.get (hM34.get hA3 (by simp)) (by simp)
      have hm5 := ownsRow_mod hm4 hM5 (by simp)
      have ht5 := ownsRow_mod ht4 hM5 (by simp)
      have hmr5 := Rd.own hm5
      have htr5 := Rd.own ht5
      clear hBl hM5 hX4 cx4 hm4 ht4 cx ca xa hA3 hX hm3 ht3 hB3 cb hM3 hm ht hA2 hA hM34 hM04 hM03 hM02 hM2 hdd hin
      simp (maxSteps := 1000000) (disch := first | omega | (simp only [sizeAlloc, sizeDrew, sizeSet, sizePut] <;> omega) | fail) only [GS, TT_eq, TTl, Nat.reduceAdd, Nat.reduceMul, Nat.reduceSub, Nat.reduceDiv, Nat.reduceMod, Nat.reducePow, Nat.reduceEqDiff, ↓reduceIte, reduceCtorEq, Int.reduceToNat, Int.reduceAdd, Int.reduceSub, Int.reduceMul]
      refine hold_loop okT (rs := [.cell 4 41, .tmp 5, .tmp 6]) rfl [36] [5, 6, 8, 9, 10, 37, 38, 39, 40, 41, 42, 43, 44, 45, 46, 47, 48, 49, 50, 51, 52, 53, 54] (fun vs' w' => ∃ k : Nat, k ≤ mbs.length ∧ vs' = [.int .i64 k] ∧ (∀ j, j < k → wk j = 0) ∧ Mod [] w5 w') (fun vs' _ => match vs' with | [.int _ i] => mbs.length - i.toNat | _ => 0) (by kernel_rfl) ⟨0, by omega, rfl, fun j hj => by omega, Mod.refl _ _⟩ ?_
      rintro vs' w6 J ⟨k, hk, rfl, hz, hM6⟩
      have hM06 := hM05.trans hM6 (by simp)
      have hX6 := hM6.get hX5 (by simp)
      have hA6 := hM6.get hA5 (by simp)
      by_cases hlt : k < mbs.length
      · have hlt2 : k < tags.length := by omega
        obtain ⟨bv, hbv, hcv⟩ := hbl vs mbs k hlt hvl
        rw [hbC] at hcv
        have hvr := ownsRow_mod (hvs bv hbv) hM6 (by simp)
        have obv := ownsRow_one hvr
        have hwk := hwK k hlt hlt2
        have hmo1 := hmo _ (List.getElem_mem hlt)
        obtain ⟨b0, o0, e0, ep0, _, g0⟩ := (hrb.mod hM6 (by simp)).at (by omega) (by omega)
        obtain ⟨b2, o2, e2, ep2, _, g2⟩ := (htr5.mod hM6 (by simp)).at (by omega) (by omega)
        have f2 : w6.cell? ⟨b2, o2 + k, none⟩ = some (.string ⟨(tags[k]).toArray⟩) := g2 k _ (getS hlt2)
        rw [Value.slice.injEq] at ep0
        obtain ⟨rfl, -, -⟩ := ep0
        subst ep2
        generalize mbs[k].1 = mo at *
        generalize tags[k] = tg at *
        have hcell : ∀ j u, [Value.int .i64 ra, .int .i64 rb, .int .i64 rc, .int .i64 rau, bv, .int .i64 mo][j]? = some u → j < 6 → w6.cell? ⟨b0, o0 + (k * 6 + j), none⟩ = some u := fun j u hj h6 => g0 (k * 6 + j) u (by rw [hcv j h6]; exact hj)
        have a0 : w6.cell? ⟨b0, o0 + k * 6, none⟩ = some (.int .i64 ra) := hcell 0 _ rfl (by omega)
        have a1 : w6.cell? ⟨b0, o0 + k * 6 + 1, none⟩ = some (.int .i64 rb) := hcell 1 _ rfl (by omega)
        have a2 : w6.cell? ⟨b0, o0 + k * 6 + 2, none⟩ = some (.int .i64 rc) := hcell 2 _ rfl (by omega)
        have a3 : w6.cell? ⟨b0, o0 + k * 6 + 3, none⟩ = some (.int .i64 rau) := hcell 3 _ rfl (by omega)
        have a4 : w6.cell? ⟨b0, o0 + k * 6 + 4, none⟩ = some bv := hcell 4 _ rfl (by omega)
        have a5 : w6.cell? ⟨b0, o0 + k * 6 + 5, none⟩ = some (.int .i64 mo) := hcell 5 _ rfl (by omega)
        clear g0 g2 hcell hcv
        simp (maxSteps := 1000000) (disch := first | omega | (simp only [sizeAlloc, sizeDrew, sizeSet, sizePut] <;> omega) | fail) only [GS, TT_eq, TTl, Nat.reduceAdd, Nat.reduceMul, Nat.reduceSub, Nat.reduceDiv, Nat.reduceMod, Nat.reducePow, Nat.reduceEqDiff, ↓reduceIte, reduceCtorEq, Int.reduceToNat, Int.reduceAdd, Int.reduceSub, Int.reduceMul, a0, a1, a2, a3, a4, a5, cellsL_one obv, obv]
        generalize hW_ : (((((((w6.alloc (.cells #[(.int .i64 0), (.int .i64 0), (.int .i64 0), (.int .i64 0), (.slice none 0 0), (.int .i64 0)] 52)).setCell ⟨w6.heap.size, 0, none⟩ (.int .i64 ra)).setCell ⟨w6.heap.size, 1, none⟩ (.int .i64 rb)).setCell ⟨w6.heap.size, 2, none⟩ (.int .i64 rc)).setCell ⟨w6.heap.size, 3, none⟩ (.int .i64 rau)).setCell ⟨w6.heap.size, 4, none⟩ bv).setCell ⟨w6.heap.size, 5, none⟩ (.int .i64 mo)) = w7
        obtain ⟨hY, hM7⟩ : w7.heap[w6.heap.size]? = some (.cells #[(.int .i64 ra), (.int .i64 rb), (.int .i64 rc), (.int .i64 rau), bv, (.int .i64 mo)] 52 (0, 0)) ∧ Mod [] w6 w7 := by
          subst hW_
          exact ⟨st6z heapNew, modSet6z ((Mod.refl [] w6).alloc _) (.inr (Nat.le_refl _))⟩
        clear hW_
        generalize hq_q2 : w6.heap.size = q2 at *
        refine hold_draw okT (rs := [.cell 4 41, .tmp 5, .tmp 6]) rfl [0, 0, 0, 4, 0, 28, 60, 127, 255] [0, 1, 2, 3, 4, 5, 6, 7, 8] (by kernel_rfl) (by kernel_rfl) ?_
        have hM78 := (Mod.refl [] w7).drewN 1
        generalize w7.drewN 1 = w8 at *
        have hM68 := hM7.trans hM78 (by simp)
        have hM08 := hM06.trans hM68 (by simp)
        have hX8 := hM68.get hX6 (by simp)
        have hA8 := hM68.get hA6 (by simp)
        have hY8 := hM78.get hY (by simp)
        have f8 := cellMS f2 hM68 (by simp)
        have cX := fun o => cellOf (o := o) hX8
        have cY := fun o => cellOf (o := o) hY8
        simp (maxSteps := 1000000) (disch := first | omega | (simp only [sizeAlloc, sizeDrew, sizeSet, sizePut] <;> omega) | fail) only [GS, TT_eq, TTl, Nat.reduceAdd, Nat.reduceMul, Nat.reduceSub, Nat.reduceDiv, Nat.reduceMod, Nat.reducePow, Nat.reduceEqDiff, ↓reduceIte, reduceCtorEq, Int.reduceToNat, Int.reduceAdd, Int.reduceSub, Int.reduceMul, cX, cY, f8]
        have hbr : Rd w8 2 bv mbs.length (mbs.flatMap mbC) := Rd.own (ownsRow_mod hvr hM68 (by simp))
        have hWr := vWrong_cps vp rau ks (ra, rb, rc) rau bv mbs mo tg w8 (hv0.mod hM08) hkl hks hmo1 (by omega) hmd hbr
        unfold balV at hWr
        rw [← hwk] at hWr
        simp only at hWr
        refine ⟨fok39, hWr _ fun w9 hM9 => .inl ⟨_, rfl, ?_⟩⟩
        have hM09 := hM08.trans hM9 (by simp)
        have hM69 := hM68.trans hM9 (by simp)
        have hA9 := hM9.get hA8 (by simp)
        have cX9 := fun o => cellOf (o := o) (hM9.get hX8 (by simp))
        have cY9 := fun o => cellOf (o := o) (hM9.get hY8 (by simp))
        have f9 := cellMS f8 hM9 (by simp)
        refine hold_dops okT (rs := [.cell 4 41, .tmp 5, .tmp 6]) rfl ?_
        by_cases hwz : wk k = 0
        · simp (maxSteps := 1000000) (disch := first | omega | (simp only [sizeAlloc, sizeDrew, sizeSet, sizePut] <;> omega) | fail) only [GS, TT_eq, TTl, Nat.reduceAdd, Nat.reduceMul, Nat.reduceSub, Nat.reduceDiv, Nat.reduceMod, Nat.reducePow, Nat.reduceEqDiff, ↓reduceIte, reduceCtorEq, Int.reduceToNat, Int.reduceAdd, Int.reduceSub, Int.reduceMul, hwz]
          refine ⟨⟨k + 1, by omega, rfl, fun j hj => ?_, hM6.trans hM69 (by simp)⟩, by omega⟩
          rcases Nat.lt_or_ge j k with h | h
          · exact hz j h
          · have : j = k := by omega
            subst this
            exact hwz
        · rw [badF_at hz hwz hlt] at hv1
          simp only at hv1
          have cA9 := fun o => cellOf (o := o) hA9
          have xA9 := fun o => frozenOf (o := o) hA9
          simp (maxSteps := 1000000) (disch := first | omega | (simp only [sizeAlloc, sizeDrew, sizeSet, sizePut] <;> omega) | fail) only [GS, TT_eq, TTl, Nat.reduceAdd, Nat.reduceMul, Nat.reduceSub, Nat.reduceDiv, Nat.reduceMod, Nat.reducePow, Nat.reduceEqDiff, ↓reduceIte, reduceCtorEq, Int.reduceToNat, Int.reduceAdd, Int.reduceSub, Int.reduceMul, hwz, cA9, xA9]
          exact load6v (st6z hA9) (h0 k _ _ hv1 hwz (modSet6z hM09 (.inr (by omega))))
      · have e : k = mbs.length := by omega
        subst e
        rw [badF_of hz] at hv1
        simp only at hv1
        have cX6 := fun o => cellOf (o := o) hX6
        have cA6 := fun o => cellOf (o := o) hA6
        have xA6 := fun o => frozenOf (o := o) hA6
        have hm6 := ownsRow_mod hm5 hM6 (by simp)
        have ht6 := ownsRow_mod ht5 hM6 (by simp)
        simp (maxSteps := 1000000) (disch := first | omega | (simp only [sizeAlloc, sizeDrew, sizeSet, sizePut] <;> omega) | fail) only [GS, TT_eq, TTl, Nat.reduceAdd, Nat.reduceMul, Nat.reduceSub, Nat.reduceDiv, Nat.reduceMod, Nat.reducePow, Nat.reduceEqDiff, ↓reduceIte, reduceCtorEq, Int.reduceToNat, Int.reduceAdd, Int.reduceSub, Int.reduceMul, cX6, cA6, xA6, cellsL_one om, om, cellsL_one ot, ot]
        have hMS := modSet6z (F := [n]) (Mod.refl [n] w6) (p := n) (.inl (by simp)) (x0 := .int .i64 ra) (x1 := .int .i64 rb) (x2 := .int .i64 rc) (x3 := .int .i64 rau) (x4 := sm) (x5 := st)
        refine load6v (st6z hA6) ?_
        exact h1r _ _ _ hv1 (ownsRow_base (ownsRow_mod hm6 hMS (by simp; omega)) (by omega)) (ownsRow_base (ownsRow_mod ht6 hMS (by simp; omega)) (by omega)) (modSet6z hM06 (.inr (by omega)))
end Go.Proofs.YtcikecociiebkaaGreatDoor
