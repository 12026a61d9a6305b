/-
  What steps come to can be made of what was seen (plain).
-/
import Derived.Test.YtgopgonkchlkfaaFsKnw1
import Derived.Test.YtgopgonkchlkfaaFsFrg4
set_option linter.unusedSimpArgs false
set_option linter.unusedVariables false
set_option maxRecDepth 20000
namespace Go.Proofs.Ytgopgonkchlkfaa
open Go Go.Wk Go.RowKit
attribute [local irreducible] go Hold
open Go.Lib
/-- Those that are terms. -/
def okL (l : List Tm) : List Tm := l.filter fun s => decide (checkS s = 0)
theorem okL_ok (l : List Tm) : ∀ s ∈ okL l, checkS s = 0 := by
  intro s hs
  unfold okL at hs
  rw [List.mem_filter] at hs
  simpa using hs.2
theorem okL_mem {l : List Tm} {s : Tm} (h : s ∈ l) (hc : checkS s = 0) : s ∈ okL l := by
  unfold okL
  rw [List.mem_filter]
  exact ⟨h, by simpa using hc⟩
theorem made_mk {A : Tm → Prop} {h : Tm} {l : List Tm} (hh : Hd h l.length) {x : Tm} (hx : madeS h l = (x, 0)) (hk : h.headD 0 ≠ 97) (hl : ∀ s ∈ l, MkT A s) : MkT A x := by
  obtain ⟨K, tr, hr⟩ := made_is hh hx
  have hp : partsS x = l := by rw [tr.parts, hr]
  have h1 := hh.pos
  refine .par ?_ (by rw [hp]; exact hl)
  intro h2
  have hc := tr.ok
  obtain ⟨c, r, e, hk2⟩ : ∃ c r, x = c :: r ∧ kindS x = kC c := by
    cases x with
    | nil => exact absurd hc checkS_nil
    | cons c r => exact ⟨c, r, rfl, by unfold kindS; rw [if_pos hc]; rfl⟩
  have e2 := tr.1
  cases h with
  | nil => simp at h1
  | cons d h =>
    rw [e] at e2
    simp only [List.cons_append, List.cons.injEq] at e2
    rw [hk2, e2.1] at h2
    have : ∀ z : Fin 256, kC (UInt8.ofNat z.val) = 2 → UInt8.ofNat z.val = 97 := by decide
    have hd := this ⟨d.toNat, d.toNat_lt⟩ (by simpa using h2)
    simp at hd
    exact hk (by simpa using hd)
theorem data_mk {A : Tm → Prop} {s t : Tm} (h : dataS s = (t, 0)) : MkT A t := by
  have hc := data_ok h
  refine .dat hc ?_
  unfold kindS
  rw [if_pos hc]
  unfold dataS at h
  split at h
  · simp at h
  · simp only [Prod.mk.injEq, and_true] at h
    rw [← h]; rfl
/-- A step makes nothing that can't be made. -/
theorem doS_mk {A : Tm → Prop} (hA : ClT A) {seen l : List Tm} {x : Stp} (hs : ∀ s ∈ seen, checkS s = 0 → A s) (hl : ∀ s ∈ l, checkS s = 0 ∧ MkT A s) (hm : mayS x l.length = true) (h : (doS seen l x).2 = 0) : MkT A (doS seen l x).1 := by
  unfold mayS at hm
  have hmk : ∀ s bn bt bl, namesS x.d = some (s, bn, bt, bl) → mayK s bn bt bl x l.length = true := fun s bn bt bl e => by rw [e] at hm; exact hm
  have mk : ∀ p : Tm × Int, (mk5 p).2 = 0 → (∀ t, p = (t, 0) → MkT A t) → MkT A (mk5 p).1 := by
    intro p h1 h2
    obtain ⟨e1, e2⟩ := mk5_ok h1
    rw [e1]
    obtain ⟨t, e⟩ := p
    simp only at e2
    subst e2
    exact h2 t rfl
  have at_ : ∀ i : Int, 0 ≤ i → i < l.length → checkS (atL l i) = 0 ∧ MkT A (atL l i) := fun i h0 h1 => hl _ (atL_mem h0 h1)
  have sl3 : 0 ≤ x.a → x.a < l.length → kindS (atL l x.a) = 6 → ∃ k n y, partsS (atL l x.a) = [k, n, y] := fun h0 h1 hk => seal_parts (at_ _ h0 h1).1 hk
  unfold doS at h ⊢
  split at h <;> rename_i hd
  · unfold lookD at h ⊢
    by_cases h1 : 0 ≤ x.n ∧ x.n < seen.length
    · rw [if_pos h1] at h ⊢
      by_cases h2 : checkS (atL seen x.n) = 0
      · rw [if_pos h2]; exact .has (hs _ (atL_mem h1.1 h1.2) h2)
      · rw [if_neg h2] at h; simp at h
    · rw [if_neg h1] at h; simp at h
  · exact mk _ h fun t e => data_mk e
  · obtain ⟨q1, q2, q3, q4⟩ := mayK_of (hmk 1 true false false (by rw [hd]; rfl))
    unfold partD at h ⊢
    split at h
    · rename_i h1
      rw [if_pos h1]
      split at h
      · rename_i h2
        rw [if_pos h2]
        have := at_ _ (q1 (by omega)).1 (q1 (by omega)).2
        exact hA.made this.2 h1 (atL_mem h2.1 h2.2)
      · simp at h
    · simp at h
  · obtain ⟨q1, q2, q3, q4⟩ := mayK_of (hmk 1 false false false (by rw [hd]; rfl))
    unfold nonceD at h ⊢
    split at h
    · rename_i h1
      rw [if_pos h1]
      obtain ⟨k, n, y, hp⟩ := sl3 (q1 (by omega)).1 (q1 (by omega)).2 h1
      have := at_ _ (q1 (by omega)).1 (q1 (by omega)).2
      unfold partsD
      rw [hp]
      exact hA.nonce this.2 h1 hp
    · simp at h
  · obtain ⟨q1, q2, q3, q4⟩ := mayK_of (hmk 2 false false false (by rw [hd]; rfl))
    unfold bodyD at h ⊢
    split at h
    · rename_i h1
      rw [if_pos h1]
      obtain ⟨k, n, y, hp⟩ := sl3 (q1 (by omega)).1 (q1 (by omega)).2 h1
      have := at_ _ (q1 (by omega)).1 (q1 (by omega)).2
      split at h
      · rename_i h2
        rw [if_pos h2]
        unfold partsD at h2 ⊢
        rw [hp] at h2 ⊢
        have hkey : k = atL l x.b := h2
        exact hA.body this.2 h1 hp (by rw [hkey]; exact (at_ _ (q2 (by omega)).1 (q2 (by omega)).2).2)
      · simp at h
    · simp at h
  · obtain ⟨q1, q2, q3, q4⟩ := mayK_of (hmk 0 false false true (by rw [hd]; rfl))
    unfold rowD at h ⊢
    split at h
    · rename_i h1
      rw [if_pos h1]
      refine mk _ h fun t e => made_mk (.inr (.inr (.inl ⟨?_, rfl⟩))) e (by simp) ?_
      · rw [List.length_map]; exact h1
      · intro s hs
        obtain ⟨v, hv, rfl⟩ := List.mem_map.1 hs
        exact (at_ v (q4 v hv).1 (q4 v hv).2).2
    · simp at h
  · obtain ⟨q1, q2, q3, q4⟩ := mayK_of (hmk 1 false false false (by rw [hd]; rfl))
    refine mk _ h fun t e => made_mk (.inr (.inr (.inr (.inl ⟨rfl, rfl⟩)))) e (by decide) ?_
    simpa using (at_ _ (q1 (by omega)).1 (q1 (by omega)).2).2
  · obtain ⟨q1, q2, q3, q4⟩ := mayK_of (hmk 2 false false false (by rw [hd]; rfl))
    refine mk _ h fun t e => made_mk (.inr (.inr (.inr (.inr (.inl ⟨rfl, rfl⟩))))) e (by decide) ?_
    simpa using ⟨(at_ _ (q1 (by omega)).1 (q1 (by omega)).2).2, (at_ _ (q2 (by omega)).1 (q2 (by omega)).2).2⟩
  · obtain ⟨q1, q2, q3, q4⟩ := mayK_of (hmk 3 false false false (by rw [hd]; rfl))
    refine mk _ h fun t e => made_mk (.inr (.inr (.inr (.inr (.inr ⟨rfl, rfl⟩))))) e (by decide) ?_
    simpa using ⟨(at_ _ (q1 (by omega)).1 (q1 (by omega)).2).2, (at_ _ (q2 (by omega)).1 (q2 (by omega)).2).2, (at_ _ (q3 (by omega)).1 (q3 (by omega)).2).2⟩
  · simp at h
theorem runS_mk {A : Tm → Prop} (hA : ClT A) {seen : List Tm} (hs : ∀ s ∈ seen, checkS s = 0 → A s) : ∀ (xs : List Stp) (l : List Tm), (∀ s ∈ l, checkS s = 0 ∧ MkT A s) → (runS seen xs l).2.2 = 0 → ∀ t ∈ (runS seen xs l).1, checkS t = 0 ∧ MkT A t
  | [], l, hl, _ => hl
  | x :: xs, l, hl, h => by
    simp only [runS] at h ⊢
    by_cases h1 : mayS x l.length = true
    · rw [if_pos h1] at h ⊢
      by_cases h2 : (doS seen l x).2 = 0
      · rw [if_pos h2] at h ⊢
        refine runS_mk hA hs xs _ ?_ h
        intro s hm
        rcases List.mem_append.1 hm with hm | hm
        · exact hl s hm
        · simp only [List.mem_singleton] at hm
          rw [hm]
          exact ⟨doS_ok (fun s hs => (hl s hs).1) h1 h2, doS_mk hA hs hl h1 h2⟩
      · rw [if_neg h2] at h; exact absurd h h2
    · rw [if_neg h1] at h; simp at h
theorem allT_mk {seen : List Tm} {xs : List Stp} (h : (allT seen xs).2.2 = 0) : ∀ t ∈ (allT seen xs).1, checkS t = 0 ∧ MkT (AnT (okL seen)) t := by
  unfold allT at h ⊢
  by_cases h0 : xs.length = 0
  · rw [if_pos h0] at h; simp at h
  · rw [if_neg h0] at h ⊢
    exact runS_mk (AnT.cl _) (fun s hs hc => AnT.seen (okL_mem hs hc)) xs [] (by simp) h
theorem runS_err {seen : List Tm} : ∀ (xs : List Stp) (l : List Tm), (runS seen xs l).2.2 ≠ 0 → (runS seen xs l).1 = []
  | [], l, h => by simp [runS] at h
  | x :: xs, l, h => by
    simp only [runS] at h ⊢
    by_cases h1 : mayS x l.length = true
    · rw [if_pos h1] at h ⊢
      by_cases h2 : (doS seen l x).2 = 0
      · rw [if_pos h2] at h ⊢; exact runS_err xs _ h
      · rw [if_neg h2]
    · rw [if_neg h1]
theorem allT_err {seen : List Tm} {xs : List Stp} (h : (allT seen xs).2.2 ≠ 0) : (allT seen xs).1 = [] := by
  unfold allT at h ⊢
  by_cases h0 : xs.length = 0
  · rw [if_pos h0]
  · rw [if_neg h0] at h ⊢
    exact runS_err xs [] h
end Go.Proofs.Ytgopgonkchlkfaa
