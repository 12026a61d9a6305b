/-
  A range over a term's places (walk).
-/
import Derived.Test.YtgopgonkchlkfaaKsPlc2
set_option linter.unusedSimpArgs false
set_option linter.unusedVariables false
set_option maxRecDepth 20000
namespace Go.Proofs.Ytgopgonkchlkfaa
open Go Go.Wk Go.RowKit
attribute [local irreducible] go Hold
open Go.Lib
/-- Cells stay; what is no cells may turn. -/
structure CK (w w' : World) : Prop where
  os : w'.os = w.os
  tape : w'.tape = w.tape
  output : w'.output = w.output
  size : w.heap.size ≤ w'.heap.size
  cells : ∀ (k : Nat) (cs : Array Value) (t : Nat) (fr : Nat × Nat), w.heap[k]? = some (.cells cs t fr) → w'.heap[k]? = some (.cells cs t fr)
  maps : ∀ (k : Nat) (es : Array MapEntry) (c : Nat), w.heap[k]? = some (.map es c) → w'.heap[k]? = some (.map es c)
theorem CK.of {w w' : World} (h : Mod [] w w') : CK w w' := ⟨h.os, h.tape, h.output, h.size, fun k cs t fr hk => h.get hk (by simp), fun k es c hk => h.get hk (by simp)⟩
theorem CK.put {w : World} {l : Nat} {r : Loop} (h : w.heap[l]? = some (.loop r)) (o : Obj) : CK w (w.putObj l o) :=
  ⟨rfl, rfl, rfl, by rw [sizePut]; exact Nat.le_refl _, fun k cs t fr hk => by
    rw [heapPn (fun e => by subst e; rw [h] at hk; simp at hk)]; exact hk, fun k es c hk => by
    rw [heapPn (fun e => by subst e; rw [h] at hk; simp at hk)]; exact hk⟩
theorem CK.trans {a b c : World} (h : CK a b) (k : CK b c) : CK a c := ⟨k.os.trans h.os, k.tape.trans h.tape, k.output.trans h.output, Nat.le_trans h.size k.size, fun i cs t fr hi => k.cells i cs t fr (h.cells i cs t fr hi), fun i es c hi => k.maps i es c (h.maps i es c hi)⟩
theorem ownF_ck {w w' : World} {base e size n : Nat} {v : Value} {xs : List Value} (h : w.ownsRowF base e size v n xs) (hm : CK w w') : w'.ownsRowF base e size v n xs := by
  refine ⟨h.1, ?_⟩
  rcases h.2 with h1 | ⟨g, cap, cur, fz, rfl, hb, hg, rest⟩
  · exact .inl h1
  · exact .inr ⟨g, cap, cur, fz, rfl, hb, hm.cells _ _ _ _ hg, rest⟩
theorem Bd.ck {b : Nat} {l : List UInt8} {w w' : World} (h : Bd b l w) (hm : CK w w') : Bd b l w' := by
  have key : ∀ p, BuilderAtF 144 5 b b p (byteCells l) w → BuilderAtF 144 5 b b p (byteCells l) w' := by
    rintro p ⟨hB, v, hb, hown, hne⟩
    exact ⟨hB, v, hm.cells _ _ _ _ hb, ownF_ck hown hm, hne⟩
  rcases h with h | h
  · exact .inl (key _ h)
  · exact .inr (key _ h)
theorem MapAt.ck {w w' : World} {r : Nat} {l : List (Value × Value)} (h : MapAt w r l) (hc : CK w w') : MapAt w' r l := by
  obtain ⟨es, c, h1, h2⟩ := h
  exact ⟨es, c, hc.maps _ _ _ h1, h2⟩
/-- A block of cells, none of places; or a map. -/
def Cell (w : World) (x : Nat) : Prop := (∃ (cs : Array Value) (t : Nat) (fr : Nat × Nat), w.heap[x]? = some (.cells cs t fr) ∧ t ≠ 141) ∨ w.heap.size ≤ x ∨ ∃ (es : Array MapEntry) (c : Nat), w.heap[x]? = some (.map es c)
theorem Cell.ne {w : World} {x l : Nat} {o : Obj} (h : Cell w x) (hl : w.heap[l]? = some o) (ho : ∀ cs t fr, o = .cells cs t fr → t = 141) (hm : ∀ es c, o ≠ .map es c) : l ≠ x := by
  rintro rfl
  rcases h with ⟨cs, t, fr, h1, h2⟩ | h | ⟨es, c, h1⟩
  · rw [h1] at hl
    simp only [Option.some.injEq] at hl
    exact h2 (ho _ _ _ hl.symm)
  · have := ltOf hl; omega
  · rw [h1] at hl
    simp only [Option.some.injEq] at hl
    exact hm _ _ hl.symm
set_option maxHeartbeats 2000000 in
theorem rangePl (S : List UInt8) (h0 : checkS S = 0) {F : Exit → Act → World → Prop} {R : Ending → World → Prop} {g : Operand} {ps : Array Tmp} {assign body : Code} {k : List KI} {fs : List Value} {w : World} {ds : List Deferred} {sp : Option Nat} {bx : Nat}
    (hg : ev fs g = .func (.func 122) #[] #[.pointer (some ⟨bx, 0, none⟩)]) (hps : ps.size = 1) (hbx : w.heap[bx]? = some (.cells #[.string ⟨S.toArray⟩] 9 (0, 0)))
    (Z : List Nat) (U : List PL → World → Prop) (V : World → Prop) (hU0 : U (placesS S) w) (hUs : ∀ r w1 w2, U r w1 → CK w1 w2 → U r w2) (hVs : ∀ w1 w2, V w1 → CK w1 w2 → V w2)
    (hround : ∀ (l fid D : Nat) (p : PL) (r : List PL) (w1 : World) (K : Value → World → Prop), U (p :: r) w1 → Mod Z w w1 → w.heap.size + 2 ≤ w1.heap.size → w.heap.size ≤ l → w1.heap[l]? = some (.loop (rec0 fid fs ps assign body D)) →
      (∀ w2 Z', Mod (l :: Z') w1 w2 → (∀ x ∈ Z', (x ∈ Z ∨ w.heap.size ≤ x) ∧ Cell w1 x) → w2.heap[l]? = some (.loop { rec0 fid fs ps assign body D with state := .busy }) → U r w2 → roundEnd K l .normal w2) →
      (∀ w2 Z', Mod (l :: Z') w1 w2 → (∀ x ∈ Z', (x ∈ Z ∨ w.heap.size ≤ x) ∧ Cell w1 x) → w2.heap[l]? = some (.loop { rec0 fid fs ps assign body D with state := .busy }) → V w2 → roundEnd K l .ret w2) →
      Hold Try.prog TT ⟨some l, [], none⟩ RF (fin Try.prog fnR RF) (.code assign) [.out (roundBody Try.prog TT K l body)] (sets fs ps.toList [.agg #[.int .i64 p.1, .int .i64 p.2.1, .int .i64 p.2.2]]) w1)
    (hend : ∀ w3 D, U [] w3 → Mod Z w w3 → w.heap.size ≤ D → w3.heap[D]? = some (.deferred (some [])) → Hold Try.prog TT ⟨none, ⟨.collected D, #[]⟩ :: ds, sp⟩ R F (.ex .normal) k fs w3)
    (hret : ∀ w3 D, V w3 → Mod Z w w3 → w.heap.size ≤ D → w3.heap[D]? = some (.deferred (some [])) → Hold Try.prog TT ⟨none, ⟨.collected D, #[]⟩ :: ds, sp⟩ R F (.ex .ret) k fs w3) :
    Hold Try.prog TT ⟨none, ds, sp⟩ R F (.code (.rangeFunc g ps assign body)) k fs w := by
  refine hold_rangeFunc hg fok122 fun fid => ?_
  simp only [List.toList_toArray, List.nil_append, List.cons_append]
  have hMw : Mod [] w ((w.alloc (.deferred (some []))).alloc (.loop (rec0 fid fs ps assign body w.heap.size))) := ((Mod.refl [] w).alloc _).alloc _
  have hd0 : ((w.alloc (.deferred (some []))).alloc (.loop (rec0 fid fs ps assign body w.heap.size))).heap[w.heap.size]? = some (.deferred (some [])) := by (simp only [heapA, sizeAlloc]; repeat (first | rfl | rw [if_neg (by omega)] | rw [if_pos (by omega)]))
  have hl0 : ((w.alloc (.deferred (some []))).alloc (.loop (rec0 fid fs ps assign body w.heap.size))).heap[w.heap.size + 1]? = some (.loop (rec0 fid fs ps assign body w.heap.size)) := heapAe (by simp only [sizeAlloc])
  have hs0 : ((w.alloc (.deferred (some []))).alloc (.loop (rec0 fid fs ps assign body w.heap.size))).heap.size = w.heap.size + 2 := by simp only [sizeAlloc]
  generalize (w.alloc (.deferred (some []))).alloc (.loop (rec0 fid fs ps assign body w.heap.size)) = w0 at hMw hd0 hl0 hs0 ⊢
  refine places1_cps S h0 bx (w.heap.size + 1) w0 _ (hMw.get hbx (by simp)) (fun r w' => U r w' ∧ Mod Z w w' ∧ w.heap.size + 2 ≤ w'.heap.size ∧ w'.heap[w.heap.size]? = some (.deferred (some [])) ∧ w'.heap[w.heap.size + 1]? = some (.loop (rec0 fid fs ps assign body w.heap.size)))
    ⟨hUs _ _ _ hU0 (CK.of hMw), hMw.mono (by simp), by omega, hd0, hl0⟩ (fun r w1 w2 ⟨a, b, c, d, e⟩ hM => ⟨hUs _ _ _ a (CK.of hM), b.trans hM (by simp), by have := hM.size; omega, hM.get d (by simp), hM.get e (by simp)⟩) ?_ ?_
  · rintro p r w1 ⟨a, b, c, d, e⟩
    refine yieldW_of (args := [.agg #[.int .i64 p.1, .int .i64 p.2.1, .int .i64 p.2.2]]) e (by rw [hps]; rfl) (hround _ _ _ p r w1 _ a b c (by omega) e ?_ ?_)
    · intro w2 Z' hM hZ hl hUr
      have hZl : ∀ x ∈ Z', w.heap.size + 1 ≠ x := fun x hx => (hZ x hx).2.ne e (by simp) (by simp)
      have hZd : ∀ x ∈ Z', w.heap.size ≠ x := fun x hx => (hZ x hx).2.ne d (by simp) (by simp)
      have hM2 := hM.trans (S' := [w.heap.size + 1]) ((Mod.refl _ w2).put (l := w.heap.size + 1) (.inl (by simp)) (.loop (rec0 fid fs ps assign body w.heap.size))) (by simp)
      refine ⟨_, hl, .inl ⟨rfl, ⟨hUs _ _ _ hUr (CK.put hl _), ?_, ?_, ?_, ?_⟩, ?_⟩⟩
      · refine b.trans hM2 fun x hx => ?_
        simp only [List.mem_cons] at hx
        rcases hx with rfl | hx
        · exact .inr (by omega)
        · exact (hZ x hx).1
      · exact Nat.le_trans c hM2.size
      · exact hM2.get d (by simp only [List.mem_cons, not_or]; exact ⟨by omega, fun hx => hZd _ hx rfl⟩)
      · exact heapPe hl
      · refine ⟨hM2.size, fun k cs fr hk => hM2.get hk ?_⟩
        simp only [List.mem_cons, not_or]
        refine ⟨fun h => ?_, fun hx => (hZ _ hx).2.ne hk (by rintro _ _ _ h; cases h; rfl) (by simp) rfl⟩
        subst h; rw [e] at hk; simp at hk
    · intro w2 Z' hM hZ hl hV
      have hZd : ∀ x ∈ Z', w.heap.size ≠ x := fun x hx => (hZ x hx).2.ne d (by simp) (by simp)
      have hl3 := heapPe (o' := .loop { ({ rec0 fid fs ps assign body w.heap.size with state := .busy } : Loop) with state := .done, pending := some .ret }) hl
      refine ⟨_, hl, .inr ⟨rfl, _, .ret, hl3, by simp, rfl, ?_⟩⟩
      have hM3 := (hM.trans (S' := [w.heap.size + 1]) ((Mod.refl _ w2).put (l := w.heap.size + 1) (.inl (by simp)) (.loop { ({ rec0 fid fs ps assign body w.heap.size with state := .busy } : Loop) with state := .done, pending := some .ret })) (by simp)).trans (S' := [w.heap.size + 1]) ((Mod.refl _ _).put (l := w.heap.size + 1) (.inl (by simp)) (.loop { ({ ({ rec0 fid fs ps assign body w.heap.size with state := .busy } : Loop) with state := .done, pending := some .ret } : Loop) with state := .exhausted })) (by simp)
      refine hret _ w.heap.size (hVs _ _ (hVs _ _ hV (CK.put hl _)) (CK.put hl3 _)) (b.trans hM3 fun x hx => ?_) (Nat.le_refl _) (hM3.get d (by simp only [List.mem_cons, not_or]; exact ⟨by omega, fun hx => hZd _ hx rfl⟩))
      simp only [List.mem_cons] at hx
      rcases hx with rfl | hx
      · exact .inr (by omega)
      · exact (hZ x hx).1
  · rintro w1 ⟨a, b, c, d, e⟩
    refine ⟨_, .normal, e, by simp, rfl, ?_⟩
    refine hend _ w.heap.size (hUs _ _ _ a (CK.put e _)) (b.put (.inr (by omega)) _) (Nat.le_refl _) ?_
    rw [heapPn (by omega)]; exact d
end Go.Proofs.Ytgopgonkchlkfaa
