/-
  BallotApart: a tag is of one ballot alone (plain); the reference's Same of any two; the law (walks).
-/
import Derived.Test.YthnlmmkhehphiaaDoorBaBal4
import Derived.Test.YthnlmmkhehphiaaDoorBaBal3
import Derived.Test.YthnlmmkhehphiaaDoorBaW2
set_option linter.unusedSimpArgs false
set_option linter.unusedVariables false
set_option maxRecDepth 20000
namespace Go.Proofs.YthnlmmkhehphiaaDoor
open Go Go.Wk Go.RowKit
attribute [local irreducible] go Hold
open Go.Lib
theorem body_inj {x y : Tx} {aud bud : Int} {mbs nbs : List Mb} {org prg : Int} {S : List UInt8} (h : bodyS x aud mbs org = (S, 0)) (h' : bodyS y bud nbs prg = (S, 0)) : x = y ∧ aud = bud ∧ mbs = nbs ∧ org = prg := by
  have h1 := (rd_of h).2
  rw [(rd_of h').2] at h1
  simp only [Prod.mk.injEq] at h1
  exact ⟨h1.1.symm, h1.2.1.symm, h1.2.2.1.symm, h1.2.2.2.symm⟩
/-- A tag that is one: its parts. -/
theorem tag_parts {x : Tx} {aud : Int} {mbs : List Mb} {org : Int} (h : (tagS x aud mbs org).2 = 0) : (bodyS x aud mbs org).2 = 0 ∧ partsS (tagS x aud mbs org).1 = [(atomS (keyL 1 org aud)).1, (bodyS x aud mbs org).1] := by
  unfold tagS at h ⊢
  split at h
  · rename_i h0
    rw [if_pos h0]
    refine ⟨h0, ?_⟩
    obtain ⟨K, tr, e⟩ := made_is (front := [109]) (l := [(atomS (keyL 1 org aud)).1, (bodyS x aud mbs org).1]) (.inr (.inr (.inr (.inr (.inl ⟨rfl, rfl⟩))))) (Prod.ext rfl h)
    rw [tr.parts, e]
  · rename_i h0
    exact absurd h h0
theorem tag_inj {x y : Tx} {aud bud : Int} {mbs nbs : List Mb} {org prg : Int} (h : (tagS x aud mbs org).2 = 0) (h' : (tagS y bud nbs prg).2 = 0) : (tagS x aud mbs org).1 = (tagS y bud nbs prg).1 ↔ (x = y ∧ aud = bud ∧ mbs = nbs ∧ org = prg) := by
  constructor
  · intro e
    obtain ⟨h1, h2⟩ := tag_parts h
    obtain ⟨h3, h4⟩ := tag_parts h'
    rw [e, h4] at h2
    simp only [List.cons.injEq, and_true] at h2
    exact body_inj (Prod.ext rfl h1) (Prod.ext h2.2 h3)
  · rintro ⟨rfl, rfl, rfl, rfl⟩
    rfl
set_option maxRecDepth 20000 in
set_option maxHeartbeats 16000000 in
theorem Same13_cps (x y : Tx) (aud bud : Int) (sm sn : Value) (mbs nbs : List Mb) (org prg : Int) (w : World) (R : Ending → World → Prop) (hl : mbs.length ≤ 1000000) (ha : Rd w 2 sm mbs.length (mbs.flatMap mbC)) (hb : Rd w 2 sn nbs.length (nbs.flatMap mbC))
    (hR : ∀ w', Mod [] w w' → R (.returned (.bool (decide (x = y ∧ aud = bud ∧ mbs = nbs ∧ org = prg)))) w') : Calls Tryd.prog 9 #[balV x aud sm org, balV y bud sn prg] w R := by
  have hR2 : ∀ b : Bool, (b = true ↔ (x = y ∧ aud = bud ∧ mbs = nbs ∧ org = prg)) → ∀ w', Mod [] w w' → R (.returned (.bool b)) w' := fun b hb w' hM => by
    have : b = decide (x = y ∧ aud = bud ∧ mbs = nbs ∧ org = prg) := by
      by_cases h : (x = y ∧ aud = bud ∧ mbs = nbs ∧ org = prg)
      · rw [decide_eq_true h]; exact hb.2 h
      · rw [decide_eq_false h]; cases b
        · rfl
        · exact absurd (hb.1 rfl) h
    rw [this]; exact hR w' hM
  clear hR
  have osm : sm.oneCell' = true := by obtain ⟨a, c, e⟩ := ha.slice; rw [e]; rfl
  have osn : sn.oneCell' = true := by obtain ⟨a, c, e⟩ := hb.slice; rw [e]; rfl
  obtain ⟨xa, xb, xc⟩ := x
  obtain ⟨ya, yb, yc⟩ := y
  unfold balV
  simp only at hR2 ⊢
  refine calls_go 4000 okT Tryd.func9 rfl (rs := [.tmp 4]) rfl Tryd.ntmps9 (args := [.agg #[.int .i64 xa, .int .i64 xb, .int .i64 xc, .int .i64 aud, sm, .int .i64 org], .agg #[.int .i64 ya, .int .i64 yb, .int .i64 yc, .int .i64 bud, sn, .int .i64 prg]]) ?_
  have hbn : ∀ x y : Bool, bnd x (bnd y false) = false := by decide
  by_cases h_a : xa = ya
  rotate_left
  · simp (maxSteps := 1000000) (disch := first | omega | (simp only [sizeAlloc, sizeDrew, sizeSet, sizePut] <;> omega) | fail) only [GS, TT_eq, TTl, Nat.reduceAdd, Nat.reduceMul, Nat.reduceSub, Nat.reduceDiv, Nat.reduceMod, Nat.reducePow, Nat.reduceEqDiff, ↓reduceIte, reduceCtorEq, Int.reduceToNat, Int.reduceAdd, Int.reduceSub, Int.reduceMul, h_a, eq_self, osm, osn, cellsL_one osm, cellsL_one osn]
    exact hR2 false ⟨fun h => by simp at h, fun e => absurd (congrArg (·.1) e.1) h_a⟩ _ (((Mod.refl [] w).alloc _).alloc _)
  subst h_a
  by_cases h_b : xb = yb
  rotate_left
  · simp (maxSteps := 1000000) (disch := first | omega | (simp only [sizeAlloc, sizeDrew, sizeSet, sizePut] <;> omega) | fail) only [GS, TT_eq, TTl, Nat.reduceAdd, Nat.reduceMul, Nat.reduceSub, Nat.reduceDiv, Nat.reduceMod, Nat.reducePow, Nat.reduceEqDiff, ↓reduceIte, reduceCtorEq, Int.reduceToNat, Int.reduceAdd, Int.reduceSub, Int.reduceMul, h_b, eq_self, osm, osn, cellsL_one osm, cellsL_one osn]
    exact hR2 false ⟨fun h => by simp at h, fun e => absurd (congrArg (·.2.1) e.1) h_b⟩ _ (((Mod.refl [] w).alloc _).alloc _)
  subst h_b
  by_cases h_c : xc = yc
  rotate_left
  · simp (maxSteps := 1000000) (disch := first | omega | (simp only [sizeAlloc, sizeDrew, sizeSet, sizePut] <;> omega) | fail) only [GS, TT_eq, TTl, Nat.reduceAdd, Nat.reduceMul, Nat.reduceSub, Nat.reduceDiv, Nat.reduceMod, Nat.reducePow, Nat.reduceEqDiff, ↓reduceIte, reduceCtorEq, Int.reduceToNat, Int.reduceAdd, Int.reduceSub, Int.reduceMul, h_c, eq_self, osm, osn, cellsL_one osm, cellsL_one osn]
    exact hR2 false ⟨fun h => by simp at h, fun e => absurd (congrArg (·.2.2) e.1) h_c⟩ _ (((Mod.refl [] w).alloc _).alloc _)
  subst h_c
  by_cases h_d : aud = bud
  rotate_left
  · simp (maxSteps := 1000000) (disch := first | omega | (simp only [sizeAlloc, sizeDrew, sizeSet, sizePut] <;> omega) | fail) only [GS, TT_eq, TTl, Nat.reduceAdd, Nat.reduceMul, Nat.reduceSub, Nat.reduceDiv, Nat.reduceMod, Nat.reducePow, Nat.reduceEqDiff, ↓reduceIte, reduceCtorEq, Int.reduceToNat, Int.reduceAdd, Int.reduceSub, Int.reduceMul, h_d, eq_self, osm, osn, cellsL_one osm, cellsL_one osn]
    exact hR2 false ⟨fun h => by simp at h, fun e => absurd e.2.1 h_d⟩ _ (((Mod.refl [] w).alloc _).alloc _)
  subst h_d
  by_cases h_e : org = prg
  rotate_left
  · simp (maxSteps := 1000000) (disch := first | omega | (simp only [sizeAlloc, sizeDrew, sizeSet, sizePut] <;> omega) | fail) only [GS, TT_eq, TTl, Nat.reduceAdd, Nat.reduceMul, Nat.reduceSub, Nat.reduceDiv, Nat.reduceMod, Nat.reducePow, Nat.reduceEqDiff, ↓reduceIte, reduceCtorEq, Int.reduceToNat, Int.reduceAdd, Int.reduceSub, Int.reduceMul, h_e, eq_self, osm, osn, cellsL_one osm, cellsL_one osn]
    exact hR2 false ⟨fun h => by simp at h, fun e => absurd e.2.2.2 h_e⟩ _ (((Mod.refl [] w).alloc _).alloc _)
  subst h_e
  simp (maxSteps := 1000000) (disch := first | omega | (simp only [sizeAlloc, sizeDrew, sizeSet, sizePut] <;> omega) | fail) only [GS, TT_eq, TTl, Nat.reduceAdd, Nat.reduceMul, Nat.reduceSub, Nat.reduceDiv, Nat.reduceMod, Nat.reducePow, Nat.reduceEqDiff, ↓reduceIte, reduceCtorEq, Int.reduceToNat, Int.reduceAdd, Int.reduceSub, Int.reduceMul, eq_self, osm, osn, cellsL_one osm, cellsL_one osn]
  have hM0 := ((Mod.refl [] w).alloc (.cells #[.int .i64 xa, .int .i64 xb, .int .i64 xc, .int .i64 aud, sm, .int .i64 org] 26)).alloc (.cells #[.int .i64 xa, .int .i64 xb, .int .i64 xc, .int .i64 aud, sn, .int .i64 org] 26)
  generalize (w.alloc (.cells #[.int .i64 xa, .int .i64 xb, .int .i64 xc, .int .i64 aud, sm, .int .i64 org] 26)).alloc (.cells #[.int .i64 xa, .int .i64 xb, .int .i64 xc, .int .i64 aud, sn, .int .i64 org] 26) = w1 at hM0 ⊢
  refine ⟨fok21, SameM_cps sm sn mbs nbs _ _ hl (ha.mod hM0 (by simp)) (hb.mod hM0 (by simp)) fun w2 hM2 => .inl ⟨_, rfl, hold_ops okT (rs := [.tmp 4]) rfl ?_⟩⟩
  have hM02 := hM0.trans hM2 (by simp)
  by_cases hm : mbs = nbs
  rotate_left
  · rw [decide_eq_false hm]
    simp (maxSteps := 1000000) (disch := first | omega | (simp only [sizeAlloc, sizeDrew, sizeSet, sizePut] <;> omega) | fail) only [GS, TT_eq, TTl, Nat.reduceAdd, Nat.reduceMul, Nat.reduceSub, Nat.reduceDiv, Nat.reduceMod, Nat.reducePow, Nat.reduceEqDiff, ↓reduceIte, reduceCtorEq, Int.reduceToNat, Int.reduceAdd, Int.reduceSub, Int.reduceMul]
    exact hR2 false ⟨fun h => by simp at h, fun e => absurd e.2.2.1 hm⟩ _ hM02
  rw [decide_eq_true hm]
  simp (maxSteps := 1000000) (disch := first | omega | (simp only [sizeAlloc, sizeDrew, sizeSet, sizePut] <;> omega) | fail) only [GS, TT_eq, TTl, Nat.reduceAdd, Nat.reduceMul, Nat.reduceSub, Nat.reduceDiv, Nat.reduceMod, Nat.reducePow, Nat.reduceEqDiff, ↓reduceIte, reduceCtorEq, Int.reduceToNat, Int.reduceAdd, Int.reduceSub, Int.reduceMul]
  exact hR2 true ⟨fun _ => ⟨rfl, rfl, hm, rfl⟩, fun _ => rfl⟩ _ hM02
end Go.Proofs.YthnlmmkhehphiaaDoor
