/-
  The law PeerTalks (plain): what is on its way, and what was taken.
-/
import Derived.Test.YtechabbdobbooaaPeer4
set_option linter.unusedSimpArgs false
set_option linter.unusedVariables false
namespace Go.Proofs.Ytechabbdobbooaa
open Go Go.Wk Go.RowKit
attribute [local irreducible] go Hold
/-- m: how many were stamped. -/
structure TInv (c : Int) (m : Nat) (way : List Int) (s : PS) : Prop where
  sorted : way.Pairwise (· < ·)
  rng : ∀ n ∈ way, 1 ≤ n ∧ n ≤ m
  low : ∀ j (h : j < way.length), (m : Int) - c + j ≤ way[j]
  win : ∃ ys, WRel s.t s.v ys ∧ s.t ≤ m ∧ ∀ n ∈ way, n ∉ ys
theorem TInv.nil (s : PS) (ht : s.t = 0) (hv : s.v = 0) : TInv 46 0 [] s := ⟨.nil, by simp, by simp, [], by rw [ht, hv]; exact WRel.nil, by omega, by simp⟩
theorem sorted_ge {way : List Int} (h : way.Pairwise (· < ·)) (h0 : ∀ n ∈ way, 1 ≤ n) : ∀ j (hj : j < way.length), (j : Int) + 1 ≤ way[j] := by
  induction way with
  | nil => intro j hj; simp at hj
  | cons a l ih =>
    intro j hj
    rw [List.pairwise_cons] at h
    cases j with
    | zero => have := h0 a (by simp); simp; exact this
    | succ j =>
      have hj' : j < l.length := by simpa using hj
      simp only [List.getElem_cons_succ]
      have ih' : ∀ (l : List Int), l.Pairwise (· < ·) → (∀ n ∈ l, a < n) → 1 ≤ a → ∀ j (hj : j < l.length), (j : Int) + 1 + 1 ≤ l[j] := by
        intro l
        induction l generalizing a with
        | nil => intro _ _ _ j hj; simp at hj
        | cons b l ih2 =>
          intro hp ha h1 j hj
          cases j with
          | zero => have := ha b (by simp); simp; omega
          | succ j =>
            rw [List.pairwise_cons] at hp
            have : ∀ (l : List Int) (c : Int), l.Pairwise (· < ·) → (∀ n ∈ l, c < n) → ∀ j (hj : j < l.length), c + j + 1 ≤ l[j] := by
              intro l
              induction l with
              | nil => intro _ _ _ j hj; simp at hj
              | cons d l ih3 =>
                intro c hp hc j hj
                rw [List.pairwise_cons] at hp
                cases j with
                | zero => have := hc d (by simp); simp; omega
                | succ j =>
                  have := ih3 d hp.2 hp.1 j (by simpa using hj)
                  have := hc d (by simp)
                  simp only [List.getElem_cons_succ]; omega
            have := this l b hp.2 hp.1 j (by simpa using hj)
            have := ha b (by simp)
            simp only [List.getElem_cons_succ]; omega
      have := ih' l h.2 h.1 (h0 a (by simp)) j hj'
      omega
/-- One is stamped, while fewer than 46 were. -/
theorem TInv.stampC {c c' : Int} {m : Nat} {way : List Int} {s : PS} (h : TInv c m way s) (hc : m < 46 ∧ c' = 46 ∨ way.length ≤ c ∧ c' = c + 1) : TInv c' (m + 1) (way ++ [(m : Int) + 1]) s := by
  have hs : (way ++ [(m : Int) + 1]).Pairwise (· < ·) := by
    rw [List.pairwise_append]
    exact ⟨h.sorted, by simp, fun a ha b hb => by simp only [List.mem_singleton] at hb; subst hb; have := (h.rng a ha).2; omega⟩
  have hr : ∀ n ∈ way ++ [(m : Int) + 1], 1 ≤ n ∧ n ≤ ((m + 1 : Nat) : Int) := by
    intro n hn
    rcases List.mem_append.1 hn with hn | hn
    · have := h.rng n hn; omega
    · simp only [List.mem_singleton] at hn; omega
  refine ⟨hs, hr, fun j hj => ?_, ?_⟩
  · rcases hc with ⟨hm, rfl⟩ | ⟨hl, rfl⟩
    · have := sorted_ge hs (fun n hn => (hr n hn).1) j hj; omega
    · rw [List.getElem_append]
      split
      · have := h.low j (by assumption); omega
      · have hj : j < way.length + 1 := by simpa using hj
        simp only [List.getElem_singleton]; omega
  · obtain ⟨ys, h1, h2, h3⟩ := h.win
    refine ⟨ys, h1, by omega, fun n hn => ?_⟩
    rcases List.mem_append.1 hn with hn | hn
    · exact h3 n hn
    · simp only [List.mem_singleton] at hn; subst hn
      intro hy; have := (h1.top _ hy).2; omega
/-- What stands on its way may be taken, once. -/
theorem TInv.may {c : Int} {m : Nat} {way : List Int} {s : PS} (h : TInv c m way s) (hc : c ≤ 60) (hm : m ≤ 65535) {k : Nat} (hk : k < way.length) : mayC s.t s.v way[k] = 0 := by
  obtain ⟨ys, h1, h2, h3⟩ := h.win
  have hr := h.rng _ (List.getElem_mem hk)
  have hl := h.low k hk
  exact (h1.may hr.1 (by omega)).2 ⟨.inr (by omega), h3 _ (List.getElem_mem hk)⟩
theorem TInv.again {c : Int} {m : Nat} {way : List Int} {s : PS} (h : TInv c m way s) (hc : c ≤ 60) (hm : m ≤ 65535) {k : Nat} (hk : k < way.length) : mayC (winS s way[k]).t (winS s way[k]).v way[k] = 9 := by
  have h0 := h.may hc hm hk
  obtain ⟨ys, h1, h2, h3⟩ := h.win
  have hr := h.rng _ (List.getElem_mem hk)
  have hl := h.low k hk
  have ht := h1.take h0
  have e : tk (s.t, s.v) way[k] = (max s.t way[k], takeV s.t s.v way[k]) := by unfold tk; rw [if_pos h0]
  unfold winS
  rw [e]
  simp only
  rw [mayC_in hr.1 (by omega), if_neg (by omega), if_pos (by omega)]
  rw [if_pos ((ht.bit _ hr.1 (by omega) (by omega)).2 (by simp))]
theorem TInv.gone {c : Int} {m : Nat} {way : List Int} {s : PS} (h : TInv c m way s) (hc : c ≤ 60) (hm : m ≤ 65535) {k : Nat} (hk : k < way.length) : TInv c m (way.eraseIdx k) (winS s way[k]) := by
  have h0 := h.may hc hm hk
  obtain ⟨ys, h1, h2, h3⟩ := h.win
  have hr := h.rng _ (List.getElem_mem hk)
  have e : tk (s.t, s.v) way[k] = (max s.t way[k], takeV s.t s.v way[k]) := by unfold tk; rw [if_pos h0]
  have hnd : way.Nodup := h.sorted.imp (fun h => by omega)
  refine ⟨h.sorted.sublist (List.eraseIdx_sublist ..), fun n hn => h.rng n ((List.eraseIdx_sublist ..).subset hn), fun j hj => ?_, ys ++ [way[k]], ?_, ?_, fun n hn hy => ?_⟩
  · rw [List.getElem_eraseIdx]
    have hl2 : j + 1 < way.length ∨ j < k := by
      rw [List.length_eraseIdx, if_pos hk] at hj; omega
    split
    · exact h.low j _
    · have hj1 : j + 1 < way.length := by omega
      have := h.low (j + 1) hj1
      omega
  · unfold winS; rw [e]; exact h1.take h0
  · unfold winS; rw [e]; simp only; omega
  · rcases List.mem_append.1 hy with hy | hy
    · exact h3 n ((List.eraseIdx_sublist ..).subset hn) hy
    · simp only [List.mem_singleton] at hy; subst hy
      rw [List.mem_eraseIdx_iff_getElem?] at hn
      obtain ⟨i, hi, hg⟩ := hn
      have hil := (List.getElem?_eq_some_iff.1 hg).1
      rw [List.getElem?_eq_getElem hil] at hg
      simp only [Option.some.injEq] at hg
      have hp := List.pairwise_iff_getElem.1 h.sorted
      rcases Nat.lt_or_gt_of_ne hi with hlt | hlt
      · have := hp i k hil hk hlt; omega
      · have := hp k i hk hil hlt; omega
/-- One is stamped and one is taken; before that at most 7 were on their way. -/
theorem TInv.both {m : Nat} {way : List Int} {s : PS} (h : TInv 46 m way s) (hl : way.length ≤ 7) (hm : m < 65535) {k : Nat} (hk : k < (way ++ [(m : Int) + 1]).length)
    (hold : k = 0 ∨ ∀ n ∈ way ++ [(m : Int) + 1], (m : Int) - 40 < n) :
    mayC s.t s.v (way ++ [(m : Int) + 1])[k] = 0 ∧ mayC (winS s (way ++ [(m : Int) + 1])[k]).t (winS s (way ++ [(m : Int) + 1])[k]).v (way ++ [(m : Int) + 1])[k] = 9 ∧ TInv 46 (m + 1) ((way ++ [(m : Int) + 1]).eraseIdx k) (winS s (way ++ [(m : Int) + 1])[k]) := by
  have h1 := h.stampC (c' := 47) (.inr ⟨by omega, by omega⟩)
  refine ⟨h1.may (by omega) (by omega) hk, h1.again (by omega) (by omega) hk, ?_⟩
  have h2 := h1.gone (by omega) (by omega) hk
  refine ⟨h2.sorted, h2.rng, fun j hj => ?_, h2.win⟩
  have hlen : ((way ++ [(m : Int) + 1]).eraseIdx k).length = way.length := by rw [List.length_eraseIdx, if_pos hk]; simp
  rcases hold with rfl | ho
  · rw [List.getElem_eraseIdx, dif_neg (by omega)]
    have hj1 : j + 1 < (way ++ [(m : Int) + 1]).length := by simp; omega
    have := h1.low (j + 1) hj1
    omega
  · have := ho _ ((List.eraseIdx_sublist ..).subset (List.getElem_mem hj))
    omega
theorem TInv.first {m : Nat} {way : List Int} {s : PS} (h : way.Pairwise (· < ·)) (k : Nat) (hk : k < way.length) (b : Int) (hb : b < way[0]'(by omega)) : ∀ n ∈ way, b < n := by
  intro n hn
  obtain ⟨i, hi, rfl⟩ := List.mem_iff_getElem.1 hn
  rcases Nat.eq_zero_or_pos i with rfl | h0
  · exact hb
  · have := (List.pairwise_iff_getElem.1 h) 0 i (by omega) hi h0; omega
end Go.Proofs.Ytechabbdobbooaa
