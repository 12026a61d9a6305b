/-
  A suite of either kind: New, Kind, Key, Hash, Mac, Seal, Open (walks).
-/
import Derived.Test.YtoladcdelaemoaaQeSby1
import Derived.Test.YtoladcdelaemoaaQeKnw1
set_option linter.unusedSimpArgs false
set_option linter.unusedVariables false
set_option maxRecDepth 20000
namespace Go.Proofs.Ytoladcdelaemoaa
open Go Go.Wk Go.RowKit
attribute [local irreducible] go Hold
open Go.Lib
/-- A suite's kind, and its master. -/
inductive Sut where
  | trm
  | byt (m : List UInt8)
def sutT : Sut → Nat
  | .trm => 72
  | .byt _ => 78
def sutV : Sut → Value
  | .trm => .agg #[]
  | .byt m => .agg #[.string ⟨m.toArray⟩]
def sutO : Sut → Prop
  | .trm => True
  | .byt m => m.length ≤ 1000000
def isS (w : World) (s : Nat) (σ : Sut) : Prop := w.heap[s]? = some (.cells #[.iface (sutT σ) (sutV σ)] 76 (0, 0)) ∧ sutO σ
theorem isS.mod {w w' : World} {s : Nat} {σ : Sut} (h : isS w s σ) (hM : Mod [] w w') : isS w' s σ := ⟨hM.get h.1 (by simp), h.2⟩
def keyG (kt : List Int) : Sut → List UInt8 → List UInt8 × Int
  | .trm, n => atomS n
  | .byt m, n => keyBy kt m n
def hashG (kt : List Int) (σ : Sut) (t : List UInt8) : List UInt8 × Int :=
  if allS [t] = true then (match σ with | .trm => madeS [104] [t] | .byt _ => hashBy kt t) else ([], 2)
def macG (kt : List Int) (σ : Sut) (k t : List UInt8) : List UInt8 × Int :=
  if allS [k, t] = true then (match σ with | .trm => madeS [109] [k, t] | .byt _ => macBy kt k t) else ([], 2)
def sealG (kt : List Int) (σ : Sut) (k n t : List UInt8) : List UInt8 × Int :=
  if allS [k, n, t] = true then (match σ with | .trm => madeS [115] [k, n, t] | .byt _ => sealBy kt k n t) else ([], 2)
def openG (kt : List Int) (σ : Sut) (k x : List UInt8) : List UInt8 × Int :=
  if allS [k, x] = true then (match σ with | .trm => openT k x | .byt _ => openBy kt k x) else ([], 2)
theorem nKey (m : List UInt8) (w : World) : (method (Try.prog.types.size + Made.depth) 78 (.agg #[.string ⟨m.toArray⟩]) "chirograph/suite.key").run Try.prog w = .ok (124, .agg #[.string ⟨m.toArray⟩]) w := by kernel_rfl
theorem nHash (m : List UInt8) (w : World) : (method (Try.prog.types.size + Made.depth) 78 (.agg #[.string ⟨m.toArray⟩]) "chirograph/suite.hash").run Try.prog w = .ok (123, .agg #[.string ⟨m.toArray⟩]) w := by kernel_rfl
theorem nMac (m : List UInt8) (w : World) : (method (Try.prog.types.size + Made.depth) 78 (.agg #[.string ⟨m.toArray⟩]) "chirograph/suite.mac").run Try.prog w = .ok (125, .agg #[.string ⟨m.toArray⟩]) w := by kernel_rfl
theorem nSeal (m : List UInt8) (w : World) : (method (Try.prog.types.size + Made.depth) 78 (.agg #[.string ⟨m.toArray⟩]) "chirograph/suite.seal").run Try.prog w = .ok (127, .agg #[.string ⟨m.toArray⟩]) w := by kernel_rfl
theorem nOpen (m : List UInt8) (w : World) : (method (Try.prog.types.size + Made.depth) 78 (.agg #[.string ⟨m.toArray⟩]) "chirograph/suite.open").run Try.prog w = .ok (126, .agg #[.string ⟨m.toArray⟩]) w := by kernel_rfl
/-- What suite there is of a kind and a master. -/
def sutN (k : Nat) (m : List UInt8) : Option Sut := if k = 1 then some .trm else if k = 2 ∧ 1 ≤ m.length ∧ m.length ≤ 64 then some (.byt m) else none
set_option maxRecDepth 20000 in
set_option maxHeartbeats 4000000 in
theorem gNew_cps (k : Nat) (hk : k < 256) (m : List UInt8) (hm : m.length ≤ maxLen) (w : World) (R : Ending → World → Prop) (h0 : sutN k m = none → R (.returned (.tuple #[.pointer none, .int .i64 2])) w)
    (hR : ∀ σ w', sutN k m = some σ → isS w' w.heap.size σ → Mod [] w w' → R (.returned (.tuple #[.pointer (some ⟨w.heap.size, 0, none⟩), .int .i64 0])) w') :
    Calls Try.prog 17 #[.int .u8 k, .string ⟨m.toArray⟩] w R := by
  unfold maxLen at hm
  unfold sutN at h0 hR
  refine calls_go 4000 okT Try.func17 rfl (rs := [.tmp 4, .tmp 5]) rfl Try.ntmps17 (args := [.int .u8 k, .string ⟨m.toArray⟩]) ?_
  by_cases h1 : k = 1
  · subst h1
    simp (maxSteps := 1000000) (disch := first | omega | (simp only [sizeAlloc, sizeDrew, sizeSet, sizePut] <;> omega) | fail) only [GS, TT_eq, TTl, Nat.reduceAdd, Nat.reduceMul, Nat.reduceSub, Nat.reduceDiv, Nat.reduceMod, Nat.reducePow, Nat.reduceEqDiff, ↓reduceIte, reduceCtorEq, Int.reduceToNat, Int.reduceAdd, Int.reduceSub, Int.reduceMul]
    exact hR .trm _ rfl ⟨heapNew, trivial⟩ ((Mod.refl [] w).alloc _)
  rw [if_neg h1] at h0 hR
  by_cases h2 : k = 2
  rotate_left
  · rw [if_neg (fun e => h2 e.1)] at h0
    simp (maxSteps := 1000000) (disch := first | omega | (simp only [sizeAlloc, sizeDrew, sizeSet, sizePut] <;> omega) | fail) only [GS, TT_eq, TTl, Nat.reduceAdd, Nat.reduceMul, Nat.reduceSub, Nat.reduceDiv, Nat.reduceMod, Nat.reducePow, Nat.reduceEqDiff, ↓reduceIte, reduceCtorEq, Int.reduceToNat, Int.reduceAdd, Int.reduceSub, Int.reduceMul]
    exact h0 rfl
  subst h2
  by_cases h3 : 1 ≤ m.length
  rotate_left
  · rw [if_neg (fun e => h3 e.2.1)] at h0
    simp (maxSteps := 1000000) (disch := first | omega | (simp only [sizeAlloc, sizeDrew, sizeSet, sizePut] <;> omega) | fail) only [GS, TT_eq, TTl, Nat.reduceAdd, Nat.reduceMul, Nat.reduceSub, Nat.reduceDiv, Nat.reduceMod, Nat.reducePow, Nat.reduceEqDiff, ↓reduceIte, reduceCtorEq, Int.reduceToNat, Int.reduceAdd, Int.reduceSub, Int.reduceMul]
    exact h0 rfl
  by_cases h4 : m.length ≤ 64
  rotate_left
  · rw [if_neg (fun e => h4 e.2.2)] at h0
    simp (maxSteps := 1000000) (disch := first | omega | (simp only [sizeAlloc, sizeDrew, sizeSet, sizePut] <;> omega) | fail) only [GS, TT_eq, TTl, Nat.reduceAdd, Nat.reduceMul, Nat.reduceSub, Nat.reduceDiv, Nat.reduceMod, Nat.reducePow, Nat.reduceEqDiff, ↓reduceIte, reduceCtorEq, Int.reduceToNat, Int.reduceAdd, Int.reduceSub, Int.reduceMul]
    exact h0 rfl
  rw [if_pos ⟨rfl, h3, h4⟩] at hR
  simp (maxSteps := 1000000) (disch := first | omega | (simp only [sizeAlloc, sizeDrew, sizeSet, sizePut] <;> omega) | fail) only [GS, TT_eq, TTl, Nat.reduceAdd, Nat.reduceMul, Nat.reduceSub, Nat.reduceDiv, Nat.reduceMod, Nat.reducePow, Nat.reduceEqDiff, ↓reduceIte, reduceCtorEq, Int.reduceToNat, Int.reduceAdd, Int.reduceSub, Int.reduceMul]
  exact hR (.byt m) _ rfl ⟨heapNew, by show m.length ≤ 1000000; omega⟩ ((Mod.refl [] w).alloc _)
set_option maxRecDepth 20000 in
set_option maxHeartbeats 4000000 in
theorem gKey_cps (kt : List Int) (σ : Sut) (s : Nat) (n : List UInt8) (hn : n.length ≤ maxLen) (w : World) (h : isS w s σ) (hK : KTab w kt) (R : Ending → World → Prop) (hR : ∀ w', Mod [] w w' → R (.returned (stV (keyG kt σ n))) w') :
    Calls Try.prog 19 #[.pointer (some ⟨s, 0, none⟩), .string ⟨n.toArray⟩] w R := by
  have c := cellOf (o := 0) h.1
  refine calls_go 4000 okT Try.func19 rfl (rs := [.tmp 4, .tmp 5]) rfl Try.ntmps19 (args := [.pointer (some ⟨s, 0, none⟩), .string ⟨n.toArray⟩]) ?_
  cases σ with
  | trm =>
    simp (maxSteps := 1000000) (disch := first | omega | (simp only [sizeAlloc, sizeDrew, sizeSet, sizePut] <;> omega) | fail) only [GS, TT_eq, TTl, Nat.reduceAdd, Nat.reduceMul, Nat.reduceSub, Nat.reduceDiv, Nat.reduceMod, Nat.reducePow, Nat.reduceEqDiff, ↓reduceIte, reduceCtorEq, Int.reduceToNat, Int.reduceAdd, Int.reduceSub, Int.reduceMul, c]
    refine hold_invoke rfl rfl (mKey _) fok119 (sKeyT_cps n hn _ _ fun w2 hM2 => .inl ⟨_, rfl, hold_ops okT (rs := [.tmp 4, .tmp 5]) rfl ?_⟩)
    unfold keyG at hR
    unfold stV at hR ⊢
    simp (maxSteps := 1000000) (disch := first | omega | (simp only [sizeAlloc, sizeDrew, sizeSet, sizePut] <;> omega) | fail) only [GS, TT_eq, TTl, Nat.reduceAdd, Nat.reduceMul, Nat.reduceSub, Nat.reduceDiv, Nat.reduceMod, Nat.reducePow, Nat.reduceEqDiff, ↓reduceIte, reduceCtorEq, Int.reduceToNat, Int.reduceAdd, Int.reduceSub, Int.reduceMul]
    exact hR _ hM2
  | byt m =>
    have hm : m.length ≤ 1000000 := h.2
    simp (maxSteps := 1000000) (disch := first | omega | (simp only [sizeAlloc, sizeDrew, sizeSet, sizePut] <;> omega) | fail) only [GS, TT_eq, TTl, Nat.reduceAdd, Nat.reduceMul, Nat.reduceSub, Nat.reduceDiv, Nat.reduceMod, Nat.reducePow, Nat.reduceEqDiff, ↓reduceIte, reduceCtorEq, Int.reduceToNat, Int.reduceAdd, Int.reduceSub, Int.reduceMul, c]
    refine hold_invoke rfl rfl (nKey m _) fok124 (byKey_cps kt m n hm hn _ hK _ fun w2 hM2 => .inl ⟨_, rfl, hold_ops okT (rs := [.tmp 4, .tmp 5]) rfl ?_⟩)
    unfold keyG at hR
    unfold stV at hR ⊢
    simp (maxSteps := 1000000) (disch := first | omega | (simp only [sizeAlloc, sizeDrew, sizeSet, sizePut] <;> omega) | fail) only [GS, TT_eq, TTl, Nat.reduceAdd, Nat.reduceMul, Nat.reduceSub, Nat.reduceDiv, Nat.reduceMod, Nat.reducePow, Nat.reduceEqDiff, ↓reduceIte, reduceCtorEq, Int.reduceToNat, Int.reduceAdd, Int.reduceSub, Int.reduceMul]
    exact hR _ hM2
set_option maxRecDepth 20000 in
set_option maxHeartbeats 4000000 in
theorem gHash_cps (kt : List Int) (σ : Sut) (s : Nat) (x : List UInt8) (hx : x.length ≤ 1000000) (w : World) (h : isS w s σ) (hK : KTab w kt) (R : Ending → World → Prop) (hR : ∀ w', Mod [] w w' → R (.returned (stV (hashG kt σ x))) w') :
    Calls Try.prog 20 #[.pointer (some ⟨s, 0, none⟩), .string ⟨x.toArray⟩] w R := by
  unfold hashG at hR
  refine calls_go 4000 okT Try.func20 rfl (rs := [.tmp 4, .tmp 5]) rfl Try.ntmps20 (args := [.pointer (some ⟨s, 0, none⟩), .string ⟨x.toArray⟩]) ?_
  simp (maxSteps := 1000000) (disch := first | omega | (simp only [sizeAlloc, sizeDrew, sizeSet, sizePut] <;> omega) | fail) only [GS, TT_eq, TTl, Nat.reduceAdd, Nat.reduceMul, Nat.reduceSub, Nat.reduceDiv, Nat.reduceMod, Nat.reducePow, Nat.reduceEqDiff, ↓reduceIte, reduceCtorEq, Int.reduceToNat, Int.reduceAdd, Int.reduceSub, Int.reduceMul]
  have hrd : Rd (w.alloc (.cells #[.string ⟨x.toArray⟩] 9)) 1 (.slice (some ⟨w.heap.size, 0, none⟩) 1 1) 1 ([x].map strV) := Rd.lit (n := 1) (xs := [.string ⟨x.toArray⟩]) rfl
  have hM0 := (Mod.refl [] w).alloc (.cells #[.string ⟨x.toArray⟩] 9)
  have h1 := h.mod hM0
  generalize w.alloc (.cells #[.string ⟨x.toArray⟩] 9) = w1 at hrd hM0 h1 ⊢
  refine ⟨fok45, sMay_cps s _ [x] (by simp) (fun t ht => by simp only [List.mem_cons, List.not_mem_nil, or_false] at ht; unfold maxLen; subst ht; omega) _ hrd _ fun w2 hM2 => .inl ⟨_, rfl, hold_ops okT (rs := [.tmp 4, .tmp 5]) rfl ?_⟩⟩
  have hM02 := hM0.trans hM2 (by simp)
  have c := cellOf (o := 0) (h1.mod hM2).1
  by_cases hal : allS [x] = true
  · rw [if_pos hal] at hR ⊢
    cases σ with
    | trm =>
      simp (maxSteps := 1000000) (disch := first | omega | (simp only [sizeAlloc, sizeDrew, sizeSet, sizePut] <;> omega) | fail) only [GS, TT_eq, TTl, Nat.reduceAdd, Nat.reduceMul, Nat.reduceSub, Nat.reduceDiv, Nat.reduceMod, Nat.reducePow, Nat.reduceEqDiff, ↓reduceIte, reduceCtorEq, Int.reduceToNat, Int.reduceAdd, Int.reduceSub, Int.reduceMul, c]
      refine hold_invoke rfl rfl (mHash _) fok118 (sHashT_cps x hx _ _ fun w3 hM3 => .inl ⟨_, rfl, hold_ops okT (rs := [.tmp 4, .tmp 5]) rfl ?_⟩)
      unfold stV at hR ⊢
      simp (maxSteps := 1000000) (disch := first | omega | (simp only [sizeAlloc, sizeDrew, sizeSet, sizePut] <;> omega) | fail) only [GS, TT_eq, TTl, Nat.reduceAdd, Nat.reduceMul, Nat.reduceSub, Nat.reduceDiv, Nat.reduceMod, Nat.reducePow, Nat.reduceEqDiff, ↓reduceIte, reduceCtorEq, Int.reduceToNat, Int.reduceAdd, Int.reduceSub, Int.reduceMul]
      exact hR _ (hM02.trans hM3 (by simp))
    | byt m =>
      simp (maxSteps := 1000000) (disch := first | omega | (simp only [sizeAlloc, sizeDrew, sizeSet, sizePut] <;> omega) | fail) only [GS, TT_eq, TTl, Nat.reduceAdd, Nat.reduceMul, Nat.reduceSub, Nat.reduceDiv, Nat.reduceMod, Nat.reducePow, Nat.reduceEqDiff, ↓reduceIte, reduceCtorEq, Int.reduceToNat, Int.reduceAdd, Int.reduceSub, Int.reduceMul, c]
      refine hold_invoke rfl rfl (nHash m _) fok123 (byHash_cps kt m x hx _ (hK.mod hM02 (by simp)) _ fun w3 hM3 => .inl ⟨_, rfl, hold_ops okT (rs := [.tmp 4, .tmp 5]) rfl ?_⟩)
      unfold stV at hR ⊢
      simp (maxSteps := 1000000) (disch := first | omega | (simp only [sizeAlloc, sizeDrew, sizeSet, sizePut] <;> omega) | fail) only [GS, TT_eq, TTl, Nat.reduceAdd, Nat.reduceMul, Nat.reduceSub, Nat.reduceDiv, Nat.reduceMod, Nat.reducePow, Nat.reduceEqDiff, ↓reduceIte, reduceCtorEq, Int.reduceToNat, Int.reduceAdd, Int.reduceSub, Int.reduceMul]
      exact hR _ (hM02.trans hM3 (by simp))
  · rw [if_neg hal] at hR ⊢
    unfold stV at hR
    simp (maxSteps := 1000000) (disch := first | omega | (simp only [sizeAlloc, sizeDrew, sizeSet, sizePut] <;> omega) | fail) only [GS, TT_eq, TTl, Nat.reduceAdd, Nat.reduceMul, Nat.reduceSub, Nat.reduceDiv, Nat.reduceMod, Nat.reducePow, Nat.reduceEqDiff, ↓reduceIte, reduceCtorEq, Int.reduceToNat, Int.reduceAdd, Int.reduceSub, Int.reduceMul]
    exact hR _ hM02
set_option maxRecDepth 20000 in
set_option maxHeartbeats 4000000 in
theorem sOpenT_cps (k x : List UInt8) (hk : k.length ≤ 1000000) (hx : x.length ≤ 1000000) (hal : allS [k, x] = true) (w : World) (R : Ending → World → Prop) (hR : ∀ w', Mod [] w w' → R (.returned (stV (openT k x))) w') :
    Calls Try.prog 121 #[.agg #[], .string ⟨k.toArray⟩, .string ⟨x.toArray⟩] w R := by
  have hcx : checkS x = 0 := by unfold allS at hal; simp at hal; exact hal.2
  unfold openT at hR
  refine calls_go 4000 okT Try.func121 rfl (rs := [.tmp 6, .tmp 7]) rfl Try.ntmps121 (args := [.agg #[], .string ⟨k.toArray⟩, .string ⟨x.toArray⟩]) ?_
  simp (maxSteps := 1000000) (disch := first | omega | (simp only [sizeAlloc, sizeDrew, sizeSet, sizePut] <;> omega) | fail) only [GS, TT_eq, TTl, Nat.reduceAdd, Nat.reduceMul, Nat.reduceSub, Nat.reduceDiv, Nat.reduceMod, Nat.reducePow, Nat.reduceEqDiff, ↓reduceIte, reduceCtorEq, Int.reduceToNat, Int.reduceAdd, Int.reduceSub, Int.reduceMul]
  have hM0 := (Mod.refl [] w).alloc (.cells #[] 72)
  generalize w.alloc _ = w0 at *
  refine ⟨fok26, tKind_cps x (by unfold maxLen; omega) _ _ fun w1 hM1 => .inl ⟨_, rfl, hold_ops okT (rs := [.tmp 6, .tmp 7]) rfl ?_⟩⟩
  have hM01 := hM0.trans hM1 (by simp)
  by_cases h6 : kindS x = 6
  rotate_left
  · rw [if_neg h6] at hR
    unfold stV at hR
    simp (maxSteps := 1000000) (disch := first | omega | (simp only [sizeAlloc, sizeDrew, sizeSet, sizePut] <;> omega) | fail) only [GS, TT_eq, TTl, Nat.reduceAdd, Nat.reduceMul, Nat.reduceSub, Nat.reduceDiv, Nat.reduceMod, Nat.reducePow, Nat.reduceEqDiff, ↓reduceIte, reduceCtorEq, Int.reduceToNat, Int.reduceAdd, Int.reduceSub, Int.reduceMul]
    exact hR _ hM01
  rw [if_pos h6] at hR
  rw [h6]
  obtain ⟨a, b, c, hp⟩ := seal_parts hcx h6
  simp (maxSteps := 1000000) (disch := first | omega | (simp only [sizeAlloc, sizeDrew, sizeSet, sizePut] <;> omega) | fail) only [GS, TT_eq, TTl, Nat.reduceAdd, Nat.reduceMul, Nat.reduceSub, Nat.reduceDiv, Nat.reduceMod, Nat.reducePow, Nat.reduceEqDiff, ↓reduceIte, reduceCtorEq, Int.reduceToNat, Int.reduceAdd, Int.reduceSub, Int.reduceMul]
  refine ⟨fok57, tParts_cps x (by unfold maxLen; omega) _ _ (fun e => absurd hcx e) fun _ sv w2 hown hM2 => .inl ⟨_, rfl, hold_ops okT (rs := [.tmp 6, .tmp 7]) rfl ?_⟩⟩
  have hM02 := hM01.trans hM2 (by simp)
  rw [hp] at hown hR
  obtain ⟨b1, o1, c1, rfl, _, g1⟩ := (Rd.own hown).at (by omega) (by simp)
  have f0 : w2.cell? ⟨b1, o1, none⟩ = some (.string ⟨a.toArray⟩) := g1 0 _ rfl
  have f2 : w2.cell? ⟨b1, o1 + 2, none⟩ = some (.string ⟨c.toArray⟩) := g1 2 _ rfl
  by_cases hak : a = k
  · rw [if_pos (show [a, b, c].getD 0 [] = k from hak)] at hR
    unfold stV at hR
    simp (maxSteps := 1000000) (disch := first | omega | (simp only [sizeAlloc, sizeDrew, sizeSet, sizePut] <;> omega) | fail) only [GS, TT_eq, TTl, Nat.reduceAdd, Nat.reduceMul, Nat.reduceSub, Nat.reduceDiv, Nat.reduceMod, Nat.reducePow, Nat.reduceEqDiff, ↓reduceIte, reduceCtorEq, Int.reduceToNat, Int.reduceAdd, Int.reduceSub, Int.reduceMul, f0, f2, hak]
    exact hR _ hM02
  · rw [if_neg (show ¬ [a, b, c].getD 0 [] = k from hak)] at hR
    unfold stV at hR
    simp (maxSteps := 1000000) (disch := first | omega | (simp only [sizeAlloc, sizeDrew, sizeSet, sizePut] <;> omega) | fail) only [GS, TT_eq, TTl, Nat.reduceAdd, Nat.reduceMul, Nat.reduceSub, Nat.reduceDiv, Nat.reduceMod, Nat.reducePow, Nat.reduceEqDiff, ↓reduceIte, reduceCtorEq, Int.reduceToNat, Int.reduceAdd, Int.reduceSub, Int.reduceMul, f0, f2, hak]
    exact hR _ hM02
set_option maxRecDepth 20000 in
set_option maxHeartbeats 4000000 in
theorem gMac_cps (kt : List Int) (σ : Sut) (s : Nat) (k t : List UInt8) (hk : k.length ≤ 1000000) (ht : t.length ≤ 1000000) (w : World) (h : isS w s σ) (hK : KTab w kt) (R : Ending → World → Prop) (hR : ∀ w', Mod [] w w' → R (.returned (stV (macG kt σ k t))) w') :
    Calls Try.prog 21 #[.pointer (some ⟨s, 0, none⟩), .string ⟨k.toArray⟩, .string ⟨t.toArray⟩] w R := by
  unfold macG at hR
  refine calls_go 4000 okT Try.func21 rfl (rs := [.tmp 6, .tmp 7]) rfl Try.ntmps21 (args := [.pointer (some ⟨s, 0, none⟩), .string ⟨k.toArray⟩, .string ⟨t.toArray⟩]) ?_
  simp (maxSteps := 1000000) (disch := first | omega | (simp only [sizeAlloc, sizeDrew, sizeSet, sizePut] <;> omega) | fail) only [GS, TT_eq, TTl, Nat.reduceAdd, Nat.reduceMul, Nat.reduceSub, Nat.reduceDiv, Nat.reduceMod, Nat.reducePow, Nat.reduceEqDiff, ↓reduceIte, reduceCtorEq, Int.reduceToNat, Int.reduceAdd, Int.reduceSub, Int.reduceMul]
  have hrd : Rd (w.alloc (.cells #[.string ⟨k.toArray⟩, .string ⟨t.toArray⟩] 9)) 1 (.slice (some ⟨w.heap.size, 0, none⟩) 2 2) 2 ([k, t].map strV) := Rd.lit (n := 2) (xs := [.string ⟨k.toArray⟩, .string ⟨t.toArray⟩]) rfl
  have hM0 := (Mod.refl [] w).alloc (.cells #[.string ⟨k.toArray⟩, .string ⟨t.toArray⟩] 9)
  have h1 := h.mod hM0
  generalize w.alloc (.cells #[.string ⟨k.toArray⟩, .string ⟨t.toArray⟩] 9) = w1 at hrd hM0 h1 ⊢
  refine ⟨fok45, sMay_cps s _ [k, t] (by simp) (fun t ht => by simp only [List.mem_cons, List.not_mem_nil, or_false] at ht; unfold maxLen; rcases ht with rfl | rfl <;> omega) _ hrd _ fun w2 hM2 => .inl ⟨_, rfl, hold_ops okT (rs := [.tmp 6, .tmp 7]) rfl ?_⟩⟩
  have hM02 := hM0.trans hM2 (by simp)
  have c := cellOf (o := 0) (h1.mod hM2).1
  by_cases hal : allS [k, t] = true
  · rw [if_pos hal] at hR ⊢
    cases σ with
    | trm =>
      simp (maxSteps := 1000000) (disch := first | omega | (simp only [sizeAlloc, sizeDrew, sizeSet, sizePut] <;> omega) | fail) only [GS, TT_eq, TTl, Nat.reduceAdd, Nat.reduceMul, Nat.reduceSub, Nat.reduceDiv, Nat.reduceMod, Nat.reducePow, Nat.reduceEqDiff, ↓reduceIte, reduceCtorEq, Int.reduceToNat, Int.reduceAdd, Int.reduceSub, Int.reduceMul, c]
      refine hold_invoke rfl rfl (mMac _) fok120 (sMacT_cps k t hk ht _ _ fun w3 hM3 => .inl ⟨_, rfl, hold_ops okT (rs := [.tmp 6, .tmp 7]) rfl ?_⟩)
      unfold stV at hR ⊢
      simp (maxSteps := 1000000) (disch := first | omega | (simp only [sizeAlloc, sizeDrew, sizeSet, sizePut] <;> omega) | fail) only [GS, TT_eq, TTl, Nat.reduceAdd, Nat.reduceMul, Nat.reduceSub, Nat.reduceDiv, Nat.reduceMod, Nat.reducePow, Nat.reduceEqDiff, ↓reduceIte, reduceCtorEq, Int.reduceToNat, Int.reduceAdd, Int.reduceSub, Int.reduceMul]
      exact hR _ (hM02.trans hM3 (by simp))
    | byt m =>
      simp (maxSteps := 1000000) (disch := first | omega | (simp only [sizeAlloc, sizeDrew, sizeSet, sizePut] <;> omega) | fail) only [GS, TT_eq, TTl, Nat.reduceAdd, Nat.reduceMul, Nat.reduceSub, Nat.reduceDiv, Nat.reduceMod, Nat.reducePow, Nat.reduceEqDiff, ↓reduceIte, reduceCtorEq, Int.reduceToNat, Int.reduceAdd, Int.reduceSub, Int.reduceMul, c]
      refine hold_invoke rfl rfl (nMac m _) fok125 (byMac_cps kt m k t hk ht _ (hK.mod hM02 (by simp)) _ fun w3 hM3 => .inl ⟨_, rfl, hold_ops okT (rs := [.tmp 6, .tmp 7]) rfl ?_⟩)
      unfold stV at hR ⊢
      simp (maxSteps := 1000000) (disch := first | omega | (simp only [sizeAlloc, sizeDrew, sizeSet, sizePut] <;> omega) | fail) only [GS, TT_eq, TTl, Nat.reduceAdd, Nat.reduceMul, Nat.reduceSub, Nat.reduceDiv, Nat.reduceMod, Nat.reducePow, Nat.reduceEqDiff, ↓reduceIte, reduceCtorEq, Int.reduceToNat, Int.reduceAdd, Int.reduceSub, Int.reduceMul]
      exact hR _ (hM02.trans hM3 (by simp))
  · rw [if_neg hal] at hR ⊢
    unfold stV at hR
    simp (maxSteps := 1000000) (disch := first | omega | (simp only [sizeAlloc, sizeDrew, sizeSet, sizePut] <;> omega) | fail) only [GS, TT_eq, TTl, Nat.reduceAdd, Nat.reduceMul, Nat.reduceSub, Nat.reduceDiv, Nat.reduceMod, Nat.reducePow, Nat.reduceEqDiff, ↓reduceIte, reduceCtorEq, Int.reduceToNat, Int.reduceAdd, Int.reduceSub, Int.reduceMul]
    exact hR _ hM02
set_option maxRecDepth 20000 in
set_option maxHeartbeats 4000000 in
theorem gSeal_cps (kt : List Int) (σ : Sut) (s : Nat) (k n t : List UInt8) (hk : k.length ≤ 1000000) (hn : n.length ≤ 1000000) (ht : t.length ≤ 1000000) (w : World) (h : isS w s σ) (hK : KTab w kt) (R : Ending → World → Prop) (hR : ∀ w', Mod [] w w' → R (.returned (stV (sealG kt σ k n t))) w') :
    Calls Try.prog 22 #[.pointer (some ⟨s, 0, none⟩), .string ⟨k.toArray⟩, .string ⟨n.toArray⟩, .string ⟨t.toArray⟩] w R := by
  unfold sealG at hR
  refine calls_go 4000 okT Try.func22 rfl (rs := [.tmp 8, .tmp 9]) rfl Try.ntmps22 (args := [.pointer (some ⟨s, 0, none⟩), .string ⟨k.toArray⟩, .string ⟨n.toArray⟩, .string ⟨t.toArray⟩]) ?_
  simp (maxSteps := 1000000) (disch := first | omega | (simp only [sizeAlloc, sizeDrew, sizeSet, sizePut] <;> omega) | fail) only [GS, TT_eq, TTl, Nat.reduceAdd, Nat.reduceMul, Nat.reduceSub, Nat.reduceDiv, Nat.reduceMod, Nat.reducePow, Nat.reduceEqDiff, ↓reduceIte, reduceCtorEq, Int.reduceToNat, Int.reduceAdd, Int.reduceSub, Int.reduceMul]
  have hrd : Rd (w.alloc (.cells #[.string ⟨k.toArray⟩, .string ⟨n.toArray⟩, .string ⟨t.toArray⟩] 9)) 1 (.slice (some ⟨w.heap.size, 0, none⟩) 3 3) 3 ([k, n, t].map strV) := Rd.lit (n := 3) (xs := [.string ⟨k.toArray⟩, .string ⟨n.toArray⟩, .string ⟨t.toArray⟩]) rfl
  have hM0 := (Mod.refl [] w).alloc (.cells #[.string ⟨k.toArray⟩, .string ⟨n.toArray⟩, .string ⟨t.toArray⟩] 9)
  have h1 := h.mod hM0
  generalize w.alloc (.cells #[.string ⟨k.toArray⟩, .string ⟨n.toArray⟩, .string ⟨t.toArray⟩] 9) = w1 at hrd hM0 h1 ⊢
  refine ⟨fok45, sMay_cps s _ [k, n, t] (by simp) (fun t ht => by simp only [List.mem_cons, List.not_mem_nil, or_false] at ht; unfold maxLen; rcases ht with rfl | rfl | rfl <;> omega) _ hrd _ fun w2 hM2 => .inl ⟨_, rfl, hold_ops okT (rs := [.tmp 8, .tmp 9]) rfl ?_⟩⟩
  have hM02 := hM0.trans hM2 (by simp)
  have c := cellOf (o := 0) (h1.mod hM2).1
  by_cases hal : allS [k, n, t] = true
  · rw [if_pos hal] at hR ⊢
    cases σ with
    | trm =>
      simp (maxSteps := 1000000) (disch := first | omega | (simp only [sizeAlloc, sizeDrew, sizeSet, sizePut] <;> omega) | fail) only [GS, TT_eq, TTl, Nat.reduceAdd, Nat.reduceMul, Nat.reduceSub, Nat.reduceDiv, Nat.reduceMod, Nat.reducePow, Nat.reduceEqDiff, ↓reduceIte, reduceCtorEq, Int.reduceToNat, Int.reduceAdd, Int.reduceSub, Int.reduceMul, c]
      refine hold_invoke rfl rfl (mSeal _) fok122 (sSealT_cps k n t hk hn ht _ _ fun w3 hM3 => .inl ⟨_, rfl, hold_ops okT (rs := [.tmp 8, .tmp 9]) rfl ?_⟩)
      unfold stV at hR ⊢
      simp (maxSteps := 1000000) (disch := first | omega | (simp only [sizeAlloc, sizeDrew, sizeSet, sizePut] <;> omega) | fail) only [GS, TT_eq, TTl, Nat.reduceAdd, Nat.reduceMul, Nat.reduceSub, Nat.reduceDiv, Nat.reduceMod, Nat.reducePow, Nat.reduceEqDiff, ↓reduceIte, reduceCtorEq, Int.reduceToNat, Int.reduceAdd, Int.reduceSub, Int.reduceMul]
      exact hR _ (hM02.trans hM3 (by simp))
    | byt m =>
      simp (maxSteps := 1000000) (disch := first | omega | (simp only [sizeAlloc, sizeDrew, sizeSet, sizePut] <;> omega) | fail) only [GS, TT_eq, TTl, Nat.reduceAdd, Nat.reduceMul, Nat.reduceSub, Nat.reduceDiv, Nat.reduceMod, Nat.reducePow, Nat.reduceEqDiff, ↓reduceIte, reduceCtorEq, Int.reduceToNat, Int.reduceAdd, Int.reduceSub, Int.reduceMul, c]
      refine hold_invoke rfl rfl (nSeal m _) fok127 (bySeal_cps kt m k n t hk hn ht _ (hK.mod hM02 (by simp)) _ fun w3 hM3 => .inl ⟨_, rfl, hold_ops okT (rs := [.tmp 8, .tmp 9]) rfl ?_⟩)
      unfold stV at hR ⊢
      simp (maxSteps := 1000000) (disch := first | omega | (simp only [sizeAlloc, sizeDrew, sizeSet, sizePut] <;> omega) | fail) only [GS, TT_eq, TTl, Nat.reduceAdd, Nat.reduceMul, Nat.reduceSub, Nat.reduceDiv, Nat.reduceMod, Nat.reducePow, Nat.reduceEqDiff, ↓reduceIte, reduceCtorEq, Int.reduceToNat, Int.reduceAdd, Int.reduceSub, Int.reduceMul]
      exact hR _ (hM02.trans hM3 (by simp))
  · rw [if_neg hal] at hR ⊢
    unfold stV at hR
    simp (maxSteps := 1000000) (disch := first | omega | (simp only [sizeAlloc, sizeDrew, sizeSet, sizePut] <;> omega) | fail) only [GS, TT_eq, TTl, Nat.reduceAdd, Nat.reduceMul, Nat.reduceSub, Nat.reduceDiv, Nat.reduceMod, Nat.reducePow, Nat.reduceEqDiff, ↓reduceIte, reduceCtorEq, Int.reduceToNat, Int.reduceAdd, Int.reduceSub, Int.reduceMul]
    exact hR _ hM02
set_option maxRecDepth 20000 in
set_option maxHeartbeats 4000000 in
theorem gOpen_cps (kt : List Int) (σ : Sut) (s : Nat) (k x : List UInt8) (hk : k.length ≤ 1000000) (hx : x.length ≤ 1000000) (w : World) (h : isS w s σ) (hK : KTab w kt) (R : Ending → World → Prop) (hR : ∀ w', Mod [] w w' → R (.returned (stV (openG kt σ k x))) w') :
    Calls Try.prog 23 #[.pointer (some ⟨s, 0, none⟩), .string ⟨k.toArray⟩, .string ⟨x.toArray⟩] w R := by
  unfold openG at hR
  refine calls_go 4000 okT Try.func23 rfl (rs := [.tmp 6, .tmp 7]) rfl Try.ntmps23 (args := [.pointer (some ⟨s, 0, none⟩), .string ⟨k.toArray⟩, .string ⟨x.toArray⟩]) ?_
  simp (maxSteps := 1000000) (disch := first | omega | (simp only [sizeAlloc, sizeDrew, sizeSet, sizePut] <;> omega) | fail) only [GS, TT_eq, TTl, Nat.reduceAdd, Nat.reduceMul, Nat.reduceSub, Nat.reduceDiv, Nat.reduceMod, Nat.reducePow, Nat.reduceEqDiff, ↓reduceIte, reduceCtorEq, Int.reduceToNat, Int.reduceAdd, Int.reduceSub, Int.reduceMul]
  have hrd : Rd (w.alloc (.cells #[.string ⟨k.toArray⟩, .string ⟨x.toArray⟩] 9)) 1 (.slice (some ⟨w.heap.size, 0, none⟩) 2 2) 2 ([k, x].map strV) := Rd.lit (n := 2) (xs := [.string ⟨k.toArray⟩, .string ⟨x.toArray⟩]) rfl
  have hM0 := (Mod.refl [] w).alloc (.cells #[.string ⟨k.toArray⟩, .string ⟨x.toArray⟩] 9)
  have h1 := h.mod hM0
  generalize w.alloc (.cells #[.string ⟨k.toArray⟩, .string ⟨x.toArray⟩] 9) = w1 at hrd hM0 h1 ⊢
  refine ⟨fok45, sMay_cps s _ [k, x] (by simp) (fun t ht => by simp only [List.mem_cons, List.not_mem_nil, or_false] at ht; unfold maxLen; rcases ht with rfl | rfl <;> omega) _ hrd _ fun w2 hM2 => .inl ⟨_, rfl, hold_ops okT (rs := [.tmp 6, .tmp 7]) rfl ?_⟩⟩
  have hM02 := hM0.trans hM2 (by simp)
  have c := cellOf (o := 0) (h1.mod hM2).1
  by_cases hal : allS [k, x] = true
  · rw [if_pos hal] at hR ⊢
    cases σ with
    | trm =>
      simp (maxSteps := 1000000) (disch := first | omega | (simp only [sizeAlloc, sizeDrew, sizeSet, sizePut] <;> omega) | fail) only [GS, TT_eq, TTl, Nat.reduceAdd, Nat.reduceMul, Nat.reduceSub, Nat.reduceDiv, Nat.reduceMod, Nat.reducePow, Nat.reduceEqDiff, ↓reduceIte, reduceCtorEq, Int.reduceToNat, Int.reduceAdd, Int.reduceSub, Int.reduceMul, c]
      refine hold_invoke rfl rfl (mOpen _) fok121 (sOpenT_cps k x hk hx hal _ _ fun w3 hM3 => .inl ⟨_, rfl, hold_ops okT (rs := [.tmp 6, .tmp 7]) rfl ?_⟩)
      unfold stV at hR ⊢
      simp (maxSteps := 1000000) (disch := first | omega | (simp only [sizeAlloc, sizeDrew, sizeSet, sizePut] <;> omega) | fail) only [GS, TT_eq, TTl, Nat.reduceAdd, Nat.reduceMul, Nat.reduceSub, Nat.reduceDiv, Nat.reduceMod, Nat.reducePow, Nat.reduceEqDiff, ↓reduceIte, reduceCtorEq, Int.reduceToNat, Int.reduceAdd, Int.reduceSub, Int.reduceMul]
      exact hR _ (hM02.trans hM3 (by simp))
    | byt m =>
      simp (maxSteps := 1000000) (disch := first | omega | (simp only [sizeAlloc, sizeDrew, sizeSet, sizePut] <;> omega) | fail) only [GS, TT_eq, TTl, Nat.reduceAdd, Nat.reduceMul, Nat.reduceSub, Nat.reduceDiv, Nat.reduceMod, Nat.reducePow, Nat.reduceEqDiff, ↓reduceIte, reduceCtorEq, Int.reduceToNat, Int.reduceAdd, Int.reduceSub, Int.reduceMul, c]
      refine hold_invoke rfl rfl (nOpen m _) fok126 (byOpen_cps kt m k x hk hx _ (hK.mod hM02 (by simp)) _ fun w3 hM3 => .inl ⟨_, rfl, hold_ops okT (rs := [.tmp 6, .tmp 7]) rfl ?_⟩)
      unfold stV at hR ⊢
      simp (maxSteps := 1000000) (disch := first | omega | (simp only [sizeAlloc, sizeDrew, sizeSet, sizePut] <;> omega) | fail) only [GS, TT_eq, TTl, Nat.reduceAdd, Nat.reduceMul, Nat.reduceSub, Nat.reduceDiv, Nat.reduceMod, Nat.reducePow, Nat.reduceEqDiff, ↓reduceIte, reduceCtorEq, Int.reduceToNat, Int.reduceAdd, Int.reduceSub, Int.reduceMul]
      exact hR _ (hM02.trans hM3 (by simp))
  · rw [if_neg hal] at hR ⊢
    unfold stV at hR
    simp (maxSteps := 1000000) (disch := first | omega | (simp only [sizeAlloc, sizeDrew, sizeSet, sizePut] <;> omega) | fail) only [GS, TT_eq, TTl, Nat.reduceAdd, Nat.reduceMul, Nat.reduceSub, Nat.reduceDiv, Nat.reduceMod, Nat.reducePow, Nat.reduceEqDiff, ↓reduceIte, reduceCtorEq, Int.reduceToNat, Int.reduceAdd, Int.reduceSub, Int.reduceMul]
    exact hR _ hM02
end Go.Proofs.Ytoladcdelaemoaa
