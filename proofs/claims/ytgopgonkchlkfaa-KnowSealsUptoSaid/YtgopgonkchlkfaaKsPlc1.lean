/-
  term.places: the row of places (walks).
-/
import Derived.Test.YtgopgonkchlkfaaKsB5
set_option linter.unusedSimpArgs false
set_option linter.unusedVariables false
set_option maxRecDepth 20000
namespace Go.Proofs.Ytgopgonkchlkfaa
open Go Go.Wk Go.RowKit
attribute [local irreducible] go Hold
open Go.Lib
def plC (p : PL) : List Value := [.int .i64 p.1, .int .i64 p.2.1, .int .i64 p.2.2]
theorem plC_len (p : PL) : (plC p).length = 3 := rfl
set_option maxRecDepth 20000 in
set_option maxHeartbeats 4000000 in
theorem places11_cps (a b d : Nat) (B base : Nat) (hB : B < base) (sv : Value) (l : List PL) (hn : l.length ≤ 1000000) (w : World) (R : Ending → World → Prop)
    (h2 : w.heap[B]? = some (.cells #[sv] 171 (0, 0))) (hown : w.ownsRow base 141 3 sv l.length (l.flatMap plC)) (hbase : base ≤ w.heap.size)
    (hR : ∀ sv' w', w'.heap[B]? = some (.cells #[sv'] 171 (0, 0)) → w'.ownsRow base 141 3 sv' (l ++ [(a, b, d)]).length ((l ++ [(a, b, d)]).flatMap plC) → Mod (B :: sv.ownBlock.toList) w w' → R (.returned (.tuple #[])) w') :
    Calls Try.prog 123 #[.int .i64 a, .int .i64 b, .int .i64 d, .pointer (some ⟨B, 0, none⟩)] w R := by
  have c2 := cellOf (o := 0) h2
  have hcl := ownsRow_one hown
  refine calls_go 4000 okT Try.func123 rfl (rs := []) rfl Try.ntmps123 (args := [.int .i64 a, .int .i64 b, .int .i64 d, .pointer (some ⟨B, 0, none⟩)]) ?_
  simp (maxSteps := 1000000) (disch := first | omega | (simp only [sizeAlloc, sizeDrew, sizeSet, sizePut] <;> omega) | fail) only [GS, TT_eq, TTl, Nat.reduceAdd, Nat.reduceMul, Nat.reduceSub, Nat.reduceDiv, Nat.reduceMod, Nat.reducePow, Nat.reduceEqDiff, ↓reduceIte, reduceCtorEq, Int.reduceToNat, Int.reduceAdd, Int.reduceSub, Int.reduceMul, c2]
  refine hold_appendN okT rfl rfl rfl rfl (by decide) base hown rfl rfl (news := plC (a, b, d)) rfl (by decide) (by simp [plC, Value.oneCell']) (by simp only; omega) (by unfold maxLen; omega) hbase fun v' w' hown2 hM2 _ => hold_ops okT (rs := []) rfl ?_
  have hb2 : ∀ x ∈ sv.ownBlock.toList, base ≤ x := fun x hx => (hown.lt x (by simpa using hx)).1
  have g2 := hM2.get h2 (fun hx => by have := hb2 _ hx; omega)
  have k2 := cellOf (o := 0) g2
  have f2 := frozenOf (o := 0) g2
  have hcl2 := ownsRow_one hown2
  simp (maxSteps := 1000000) (disch := first | omega | (simp only [sizeAlloc, sizeDrew, sizeSet, sizePut] <;> omega) | fail) only [GS, TT_eq, TTl, Nat.reduceAdd, Nat.reduceMul, Nat.reduceSub, Nat.reduceDiv, Nat.reduceMod, Nat.reducePow, Nat.reduceEqDiff, ↓reduceIte, reduceCtorEq, Int.reduceToNat, Int.reduceAdd, Int.reduceSub, Int.reduceMul, k2, f2, cellsL_one hcl2, hcl2]
  refine hR v' _ (heapSet g2) (ownsRow_mod ?_ ((Mod.refl [B] w').set (.inl (by simp)) _) (by simpa using hB)) ?_
  · rw [List.flatMap_append, List.length_append]; exact hown2
  · exact (Mod.mono (S' := B :: sv.ownBlock.toList) hM2 (fun x hx => List.mem_cons_of_mem _ hx)).set (.inl (by simp)) _
/-- What a walk has left that tells its places. -/
def TellQ (B : Nat) (w0 : World) (l : List PL) (w' : World) : Prop :=
  ∃ sv, w'.heap[B]? = some (.cells #[sv] 171 (0, 0)) ∧ w'.ownsRow (B + 1) 141 3 sv l.length (l.flatMap plC) ∧ Mod [] w0 w' ∧ B + 1 ≤ w'.heap.size
theorem TellQ.mod {B : Nat} {w0 : World} {l : List PL} {w w' : World} (h : TellQ B w0 l w) (hM : Mod [] w w') : TellQ B w0 l w' := by
  obtain ⟨sv, h2, h3, h4, h5⟩ := h
  exact ⟨sv, hM.get h2 (by simp), ownsRow_mod h3 hM (by simp), h4.trans hM (by simp), by have := hM.size; omega⟩
theorem TellQ.step {B : Nat} {w0 : World} (hB : w0.heap.size ≤ B) {L : List PL} (hL : L.length ≤ 1000000) (l : List PL) (a b d : Nat) (w : World) (R : Ending → World → Prop) (hLt : ∃ r, l ++ (a, b, d) :: r = L) (ht : TellQ B w0 l w)
    (hR : ∀ w', TellQ B w0 (l ++ [(a, b, d)]) w' → R (.returned (.tuple #[])) w') : Calls Try.prog 123 #[.int .i64 a, .int .i64 b, .int .i64 d, .pointer (some ⟨B, 0, none⟩)] w R := by
  obtain ⟨sv, k2, k3, k4, k5⟩ := ht
  have hll : l.length ≤ 1000000 := by
    obtain ⟨r, hr⟩ := hLt
    have := congrArg List.length hr
    rw [List.length_append] at this; omega
  refine places11_cps a b d B (B + 1) (by omega) sv l hll w R k2 k3 k5 (fun sv' w'' q1 q2 q3 => hR _ ?_)
  have hob : ∀ x ∈ sv.ownBlock.toList, B + 1 ≤ x := fun x hx => (k3.lt x (by simpa using hx)).1
  refine ⟨sv', q1, q2, k4.trans q3 (fun x hx => .inr ?_), by have := q3.size; omega⟩
  simp only [List.mem_cons] at hx; rcases hx with hx | hx; omega; have := hob _ hx; omega
/-! the places as they begin -/
def atS (S : List UInt8) (l : List PL) : List PL := l.foldl (fun at' p => at'.set p.1 p) (List.replicate S.length (0, 0, 0))
def placesS (S : List UInt8) : List PL := (atS S (walkS S 16 1 0).2.2).filter fun p => decide (0 < p.2.2)
theorem atS_len (S : List UInt8) (l : List PL) : (atS S l).length = S.length := by
  have key : ∀ (l : List PL) (z : List PL), (l.foldl (fun at' p => at'.set p.1 p) z).length = z.length := by
    intro l; induction l with
    | nil => intro z; rfl
    | cons p l ih => intro z; rw [List.foldl_cons, ih, List.length_set]
  unfold atS; rw [key, List.length_replicate]
theorem atS_snoc (S : List UInt8) (l : List PL) (p : PL) : atS S (l ++ [p]) = (atS S l).set p.1 p := by unfold atS; rw [List.foldl_append]; rfl
/-- What the told places say is within bounds. -/
def plOk (n : Nat) (p : PL) : Prop := p.1 < n ∧ p.1 ≤ p.2.1 ∧ p.2.1 ≤ n ∧ p.2.2 ≤ 16 ∧ 0 < p.2.2
theorem kidsW_told {W : Nat → Nat × Int × List PL} {N : Nat} {Q : PL → Prop} (hW : ∀ p, p ≤ N → ((W p).2.1 = 0 → p ≤ (W p).1 ∧ (W p).1 ≤ N) ∧ ∀ q ∈ (W p).2.2, Q q) : ∀ k p, p ≤ N → ∀ q ∈ (kidsW W k p).2.2, Q q
  | 0, p, hp, q, hq => by simp [kidsW] at hq
  | k + 1, p, hp, q, hq => by
    simp only [kidsW] at hq
    by_cases h0 : (W p).2.1 = 0
    · rw [if_pos h0, List.mem_append] at hq
      rcases hq with hq | hq
      · exact (hW p hp).2 q hq
      · exact kidsW_told hW k _ ((hW p hp).1 h0).2 q hq
    · rw [if_neg h0] at hq
      exact (hW p hp).2 q hq
theorem walkS_told (S : List UInt8) : ∀ f d p, p ≤ S.length → d + f = 17 → 0 < d → ∀ q ∈ (walkS S f d p).2.2, plOk S.length q
  | 0, d, p, hp, hd, _, q, hq => by simp [walkS] at hq
  | f + 1, d, p, hp, hd, h1d, q, hq => by
    simp only [walkS] at hq
    by_cases h0 : (frontS (S.drop p)).2.2 = 0
    · rw [if_pos h0] at hq
      have hl := frontS_len (s := S.drop p) (n := (frontS (S.drop p)).1) (k := (frontS (S.drop p)).2.1) (by rw [← h0])
      rw [List.length_drop] at hl
      have hk := kidsW_told (W := walkS S f (d + 1)) (N := S.length) (Q := plOk S.length) (fun q hq => ⟨fun h => walkS_len S f (d + 1) q hq h, walkS_told S f (d + 1) q hq (by omega) (by omega)⟩) (frontS (S.drop p)).2.1 (p + (frontS (S.drop p)).1) (by omega)
      by_cases h1 : (kidsW (walkS S f (d + 1)) (frontS (S.drop p)).2.1 (p + (frontS (S.drop p)).1)).2.1 = 0
      · rw [if_pos h1, List.mem_append] at hq
        rcases hq with hq | hq
        · exact hk q hq
        · have h2 := kidsW_len (W := walkS S f (d + 1)) (N := S.length) (fun q hq h => walkS_len S f (d + 1) q hq h) _ _ (by omega) h1
          simp only [List.mem_cons, List.not_mem_nil, or_false] at hq
          subst hq
          exact ⟨by simp only; omega, by simp only; omega, h2.2, by simp only; omega, h1d⟩
      · rw [if_neg h1] at hq
        exact hk q hq
    · rw [if_neg h0] at hq; simp at hq
theorem told_ok (S : List UInt8) : ∀ q ∈ (walkS S 16 1 0).2.2, plOk S.length q := walkS_told S 16 1 0 (by omega) rfl (by omega)
theorem atS_mem (S : List UInt8) (l : List PL) : ∀ q ∈ atS S l, q = (0, 0, 0) ∨ q ∈ l := by
  have key : ∀ (l : List PL) (z : List PL), ∀ q ∈ (l.foldl (fun at' p => at'.set p.1 p) z), q ∈ z ∨ q ∈ l := by
    intro l; induction l with
    | nil => intro z q h; exact .inl h
    | cons p l ih =>
      intro z q h
      rw [List.foldl_cons] at h
      rcases ih _ q h with h | h
      · rcases List.mem_or_eq_of_mem_set h with h | h
        · exact .inl h
        · exact .inr (by simp [h])
      · exact .inr (List.mem_cons_of_mem _ h)
  intro q h
  rcases key l _ q h with h | h
  · exact .inl (List.eq_of_mem_replicate h)
  · exact .inr h
theorem placesS_ok {S : List UInt8} {q : PL} (h : q ∈ placesS S) : plOk S.length q := by
  unfold placesS at h
  rw [List.mem_filter] at h
  rcases atS_mem S _ q h.1 with e | e
  · rw [e] at h; simp at h
  · exact told_ok S q e
end Go.Proofs.Ytgopgonkchlkfaa
