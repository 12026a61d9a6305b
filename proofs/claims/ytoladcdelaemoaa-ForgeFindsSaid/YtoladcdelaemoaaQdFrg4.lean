/-
  Steps, one behind the other (walk).
-/
import Derived.Test.YtoladcdelaemoaaQdFrg3
set_option linter.unusedSimpArgs false
set_option linter.unusedVariables false
set_option maxRecDepth 20000
namespace Go.Proofs.Ytoladcdelaemoaa
open Go Go.Wk Go.RowKit
attribute [local irreducible] go Hold
open Go.Lib
/-- A row of steps that comes in. -/
structure RdS (w : World) (sa : Value) (xs : List Stp) : Prop where
  rd : Rd w 7 sa xs.length (xs.flatMap stpC)
  el : ∀ x ∈ xs, StpIn w x
theorem RdS.mod {w w' : World} {sa : Value} {xs : List Stp} (h : RdS w sa xs) (hm : Mod [] w w') : RdS w' sa xs := ⟨h.rd.mod hm (by simp), fun x hx => (h.el x hx).mod hm (by simp)⟩
/-- What steps come to, behind others. -/
def runS (seen : List (List UInt8)) : List Stp → List (List UInt8) → List (List UInt8) × Nat × Int
  | [], l => (l, 0, 0)
  | x :: r, l => if mayS x l.length = true then (if (doS seen l x).2 = 0 then runS seen r (l ++ [(doS seen l x).1]) else ([], l.length, (doS seen l x).2)) else ([], l.length, 2)
def allT (seen : List (List UInt8)) (xs : List Stp) : List (List UInt8) × Nat × Int := if xs.length = 0 then ([], 0, 3) else runS seen xs []
/-! what a step makes is a term -/
theorem data_ok {s t : List UInt8} (h : dataS s = (t, 0)) : checkS t = 0 := by
  unfold dataS at h
  split at h
  · simp at h
  · rename_i hs
    simp only [Prod.mk.injEq, and_true] at h
    have hl := numL_len (v := s.length) (by omega)
    exact Tr.ok (h := t) (k := .nil) ⟨by simp [encF], .inl ⟨rfl, s, by omega, h.symm⟩, trivial, by simp [hgtF], by rw [← h]; simp; omega⟩
theorem mk5_ok {p : List UInt8 × Int} (h : (mk5 p).2 = 0) : mk5 p = p ∧ p.2 = 0 := by
  unfold mk5 at h ⊢
  split
  · rename_i h0; exact ⟨rfl, h0⟩
  · rename_i h0; rw [if_neg h0] at h; simp at h
theorem doS_ok {seen l : List (List UInt8)} {x : Stp} (hl : ∀ s ∈ l, checkS s = 0) (hm : mayS x l.length = true) (h : (doS seen l x).2 = 0) : checkS (doS seen l x).1 = 0 := by
  unfold mayS at hm
  have hmk : ∀ s bn bt bl, namesS x.d = some (s, bn, bt, bl) → mayK s bn bt bl x l.length = true := fun s bn bt bl e => by rw [e] at hm; exact hm
  have mk : ∀ p : List UInt8 × Int, (mk5 p).2 = 0 → (∀ t, p = (t, 0) → checkS t = 0) → checkS (mk5 p).1 = 0 := by
    intro p h1 h2
    obtain ⟨e1, e2⟩ := mk5_ok h1
    rw [e1]
    obtain ⟨t, e⟩ := p
    simp only at e2
    subst e2
    exact h2 t rfl
  have pts : ∀ i : Int, 0 ≤ x.a → x.a < l.length → 0 ≤ i → i < (partsD l x).length → checkS (atL (partsD l x) i) = 0 := by
    intro i h0 h1 h2 h3
    obtain ⟨hd, k, t⟩ := tr_of (hl _ (atL_mem h0 h1))
    have hm := atL_mem h2 h3
    unfold partsD at hm ⊢
    rw [t.parts] at hm ⊢
    exact t.root _ hm
  have three : 0 ≤ x.a → x.a < l.length → kindS (atL l x.a) = 6 → (partsD l x).length = 3 := by
    intro h0 h1 hk
    have ho := opens_plain (hl _ (atL_mem h0 h1))
    rcases ho with ⟨g, _⟩ | ⟨g, _⟩ | ⟨g, _⟩ | ⟨g, _⟩ | ⟨g, _⟩ | ⟨_, _, a, b, c, g, _⟩ <;> first | (rw [hk] at g; exact absurd g (by decide)) | (unfold partsD; rw [g]; rfl)
  unfold doS at h ⊢
  split at h <;> rename_i hd
  · unfold lookD at h ⊢
    by_cases h1 : 0 ≤ x.n ∧ x.n < seen.length
    · rw [if_pos h1] at h ⊢
      by_cases h2 : checkS (atL seen x.n) = 0
      · rw [if_pos h2]; exact h2
      · rw [if_neg h2] at h; simp at h
    · rw [if_neg h1] at h; simp at h
  · exact mk _ h fun t e => data_ok e
  · obtain ⟨q1, q2, q3, q4⟩ := mayK_of (hmk 1 true false false (by rw [hd]; rfl))
    unfold partD at h ⊢
    split at h
    · rename_i h1
      rw [if_pos h1]
      split at h
      · rename_i h2
        rw [if_pos h2]
        exact pts _ (q1 (by omega)).1 (q1 (by omega)).2 h2.1 h2.2
      · simp at h
    · simp at h
  · obtain ⟨q1, q2, q3, q4⟩ := mayK_of (hmk 1 false false false (by rw [hd]; rfl))
    unfold nonceD at h ⊢
    split at h
    · rename_i h1
      rw [if_pos h1]
      have := three (q1 (by omega)).1 (q1 (by omega)).2 h1
      exact pts 1 (q1 (by omega)).1 (q1 (by omega)).2 (by omega) (by omega)
    · simp at h
  · obtain ⟨q1, q2, q3, q4⟩ := mayK_of (hmk 2 false false false (by rw [hd]; rfl))
    unfold bodyD at h ⊢
    split at h
    · rename_i h1
      rw [if_pos h1]
      have := three (q1 (by omega)).1 (q1 (by omega)).2 h1
      split at h
      · rename_i h2
        rw [if_pos h2]
        exact pts 2 (q1 (by omega)).1 (q1 (by omega)).2 (by omega) (by omega)
      · simp at h
    · simp at h
  · unfold rowD at h ⊢
    split at h
    · rename_i h1
      rw [if_pos h1]
      exact mk _ h fun t e => made_ok e
    · simp at h
  · exact mk _ h fun t e => made_ok e
  · exact mk _ h fun t e => made_ok e
  · exact mk _ h fun t e => made_ok e
  · simp at h
theorem runS_len {seen : List (List UInt8)} : ∀ (xs : List Stp) (l : List (List UInt8)), (runS seen xs l).2.2 = 0 → (runS seen xs l).1.length = l.length + xs.length ∧ (runS seen xs l).2.1 = 0
  | [], l, _ => by simp [runS]
  | x :: xs, l, h => by
    simp only [runS] at h ⊢
    by_cases h1 : mayS x l.length = true
    · rw [if_pos h1] at h ⊢
      by_cases h2 : (doS seen l x).2 = 0
      · rw [if_pos h2] at h ⊢
        have := runS_len xs _ h
        rw [List.length_append] at this
        simp only [List.length_cons, List.length_nil] at this ⊢
        omega
      · rw [if_neg h2] at h; exact absurd h h2
    · rw [if_neg h1] at h; simp at h
/-! the deferred call -/
set_option maxHeartbeats 2000000 in
theorem allD_ret (p q r : Value) (w : World) (R : Ending → FrameMode → World → Prop) (hR : R (.returned (.tuple #[])) .returning w) :
    CallsR Try.prog 58 #[p, q, r] .returning w R := by
  refine callsDIn_of_wpSIn Try.func58 rfl (by trivial) fun c₀ cs hu => ?_
  apply wpSIn_seq
  apply wpSIn_region
  simp [wpOpsSIn, go_sem, recoverD, hu, Try.ntmps58, Exit.thenS]
  have e : c₀ = { c₀ with mode := .returning } := by cases c₀; simp only at hu; subst hu; rfl
  rw [e]
  refine wpS_go (fs := [p, q, r, .nilIface, undef, undef, .nilIface, undef, undef, undef, undef, undef, undef, undef, undef, undef, undef, undef, undef, undef, undef]) okT (rs := []) rfl ?_
  simp (maxSteps := 1000000) (disch := first | omega | (simp only [sizeAlloc, sizeDrew, sizeSet, sizePut] <;> omega) | fail) only [GS, TT_eq, TTl, Nat.reduceAdd, Nat.reduceMul, Nat.reduceSub, Nat.reduceDiv, Nat.reduceMod, Nat.reducePow, Nat.reduceEqDiff, ↓reduceIte, reduceCtorEq, Int.reduceToNat, Int.reduceAdd, Int.reduceSub, Int.reduceMul]
  unfold recEnd
  simp (maxSteps := 1000000) (disch := first | omega | (simp only [sizeAlloc, sizeDrew, sizeSet, sizePut] <;> omega) | fail) only [GS, TT_eq, TTl, Nat.reduceAdd, Nat.reduceMul, Nat.reduceSub, Nat.reduceDiv, Nat.reduceMod, Nat.reducePow, Nat.reduceEqDiff, ↓reduceIte, reduceCtorEq, Int.reduceToNat, Int.reduceAdd, Int.reduceSub, Int.reduceMul]
  exact hR
def doneF (n : Nat) (e : Int) : List PanicEntry := [{ v := .iface 103 (.agg #[.int .i64 n, .int .i64 e]), recovered := true }]
set_option maxHeartbeats 2000000 in
theorem allD_pan (a b c n : Nat) (e : Int) (x y z : Value) (w : World) (hab : a ≠ b) (hac : a ≠ c) (hbc : b ≠ c) (hA : w.heap[a]? = some (.cells #[x] 22 (0, 0))) (hB : w.heap[b]? = some (.cells #[y] 3 (0, 0))) (hC : w.heap[c]? = some (.cells #[z] 31 (0, 0))) (R : Ending → FrameMode → World → Prop)
    (hR : ∀ w', w'.heap[a]? = some (.cells #[.slice none 0 0] 22 (0, 0)) → w'.heap[b]? = some (.cells #[.int .i64 n] 3 (0, 0)) → w'.heap[c]? = some (.cells #[.int .i64 e] 31 (0, 0)) → Mod [a, b, c] w w' → R (.returned (.tuple #[])) (.panicking (doneF n e)) w') :
    CallsR Try.prog 58 #[.pointer (some ⟨a, 0, none⟩), .pointer (some ⟨b, 0, none⟩), .pointer (some ⟨c, 0, none⟩)] (.panicking (wrF n e)) w R := by
  refine callsDIn_of_wpSIn Try.func58 rfl (by trivial) fun c₀ cs hu => ?_
  apply wpSIn_seq
  apply wpSIn_region
  unfold wrF at hu
  simp [wpOpsSIn, go_sem, recoverD, hu, Try.ntmps58, Exit.thenS]
  have hal := ltOf hA
  have hbl := ltOf hB
  have hcl := ltOf hC
  have hca : w.cell? ⟨a, 0, none⟩ = some x := by rw [cellOf hA]; rfl
  have hcb : w.cell? ⟨b, 0, none⟩ = some y := by rw [cellOf hB]; rfl
  have hcc : w.cell? ⟨c, 0, none⟩ = some z := by rw [cellOf hC]; rfl
  have hfa := frozenOf (o := 0) hA
  have hfb := frozenOf (o := 0) hB
  have hfc := frozenOf (o := 0) hC
  refine wpS_go (u := .panicking [{ v := .iface 103 (.agg #[.int .i64 n, .int .i64 e]), recovered := true }]) (fs := [.pointer (some ⟨a, 0, none⟩), .pointer (some ⟨b, 0, none⟩), .pointer (some ⟨c, 0, none⟩), .iface 103 (.agg #[.int .i64 n, .int .i64 e]), undef, undef, .iface 103 (.agg #[.int .i64 n, .int .i64 e]), undef, undef, undef, undef, undef, undef, undef, undef, undef, undef, undef, undef, undef, undef]) okT (rs := []) rfl ?_
  simp (maxSteps := 1000000) (disch := first | omega | (simp only [sizeAlloc, sizeDrew, sizeSet, sizePut] <;> omega) | fail) only [GS, TT_eq, TTl, Nat.reduceAdd, Nat.reduceMul, Nat.reduceSub, Nat.reduceDiv, Nat.reduceMod, Nat.reducePow, Nat.reduceEqDiff, ↓reduceIte, reduceCtorEq, Int.reduceToNat, Int.reduceAdd, Int.reduceSub, Int.reduceMul, hca, hcb, hcc, hfa, hfb, hfc]
  have hk := heapSet (o := 1) (v := .int .i64 e) (heapSet (o := 0) (v := .int .i64 n) (heapNew (w := w) (o := .cells #[.int .i64 0, .int .i64 0] 103)))
  have hM : Mod [] w (((w.alloc (.cells #[.int .i64 0, .int .i64 0] 103)).setCell ⟨w.heap.size, 0, none⟩ (.int .i64 n)).setCell ⟨w.heap.size, 1, none⟩ (.int .i64 e)) := (((Mod.refl [] w).alloc _).set (p := ⟨w.heap.size, 0, none⟩) (.inr (Nat.le_refl _)) _).set (p := ⟨w.heap.size, 1, none⟩) (.inr (Nat.le_refl _)) _
  generalize (((w.alloc (.cells #[.int .i64 0, .int .i64 0] 103)).setCell ⟨w.heap.size, 0, none⟩ (.int .i64 n)).setCell ⟨w.heap.size, 1, none⟩ (.int .i64 e)) = w1 at hk hM ⊢
  generalize w.heap.size = kb at hk hal hbl hcl ⊢
  refine hold_draw okT (rs := []) rfl [0, 1, 0, 4, 0, 19, 63] [0, 1, 2, 3, 4, 5, 6] (by kernel_rfl) (by kernel_rfl) ?_
  have hM1 := hM.drewN 1
  have hk1 : (w1.drewN 1).heap[kb]? = _ := hk
  generalize w1.drewN 1 = w2 at hM1 hk1 ⊢
  have gA := hM1.get hA (by simp)
  have gB := hM1.get hB (by simp)
  have gC := hM1.get hC (by simp)
  have d0 : w2.cell? ⟨kb, 0, none⟩ = some (.int .i64 n) := by rw [cellOf hk1]; rfl
  have d1 : w2.cell? ⟨kb, 1, none⟩ = some (.int .i64 e) := by rw [cellOf hk1]; rfl
  have da : w2.cell? ⟨a, 0, none⟩ = some x := by rw [cellOf gA]; rfl
  have db : w2.cell? ⟨b, 0, none⟩ = some y := by rw [cellOf gB]; rfl
  have dc : w2.cell? ⟨c, 0, none⟩ = some z := by rw [cellOf gC]; rfl
  have fa := frozenOf (o := 0) gA
  have fb := frozenOf (o := 0) gB
  have fc := frozenOf (o := 0) gC
  simp (maxSteps := 1000000) (disch := first | omega | (simp only [sizeAlloc, sizeDrew, sizeSet, sizePut] <;> omega) | fail) only [GS, TT_eq, TTl, Nat.reduceAdd, Nat.reduceMul, Nat.reduceSub, Nat.reduceDiv, Nat.reduceMod, Nat.reducePow, Nat.reduceEqDiff, ↓reduceIte, reduceCtorEq, Int.reduceToNat, Int.reduceAdd, Int.reduceSub, Int.reduceMul, d0, d1, da, db, dc, fa, fb, fc]
  unfold recEnd
  simp (maxSteps := 1000000) (disch := first | omega | (simp only [sizeAlloc, sizeDrew, sizeSet, sizePut] <;> omega) | fail) only [GS, TT_eq, TTl, Nat.reduceAdd, Nat.reduceMul, Nat.reduceSub, Nat.reduceDiv, Nat.reduceMod, Nat.reducePow, Nat.reduceEqDiff, ↓reduceIte, reduceCtorEq, Int.reduceToNat, Int.reduceAdd, Int.reduceSub, Int.reduceMul]
  have mA : Mod [a, b, c] w2 _ := (((Mod.refl [a, b, c] w2).set (p := ⟨a, 0, none⟩) (.inl (by simp)) (.slice none 0 0)).set (p := ⟨b, 0, none⟩) (.inl (by simp)) (.int .i64 n)).set (p := ⟨c, 0, none⟩) (.inl (by simp)) (.int .i64 e)
  exact hR _ (heapSetNe (heapSetNe (heapSet gA) hab) hac) (heapSetNe (heapSet (heapSetNe gB hab.symm)) hbc) (heapSet (heapSetNe (heapSetNe gC hac.symm) hbc.symm)) ((hM1.mono (by simp)).trans mA (fun y hy => .inl hy))
end Go.Proofs.Ytoladcdelaemoaa
