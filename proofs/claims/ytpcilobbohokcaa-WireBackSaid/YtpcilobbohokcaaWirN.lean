/-
  wire.decode (walk).
-/
import Derived.Test.YtpcilobbohokcaaWirK
import Derived.Test.YtpcilobbohokcaaMpr
set_option linter.unusedSimpArgs false
set_option linter.unusedVariables false
namespace Go.Proofs.Ytpcilobbohokcaa
open Go Go.Wk Go.RowKit
attribute [local irreducible] go Hold
open Go.Lib
theorem kinds_in : ∀ e ∈ kindsL, ∃ k : Nat, (1 ≤ k ∧ k ≤ 6) ∧ e = (.int .u8 k, kdAt k) := by
  intro e he
  unfold kindsL at he
  simp only [List.mem_cons, List.not_mem_nil, or_false] at he
  rcases he with rfl | rfl | rfl | rfl | rfl | rfl
  · exact ⟨1, by omega, rfl⟩
  · exact ⟨2, by omega, rfl⟩
  · exact ⟨3, by omega, rfl⟩
  · exact ⟨4, by omega, rfl⟩
  · exact ⟨5, by omega, rfl⟩
  · exact ⟨6, by omega, rfl⟩
theorem in_kinds {k : Nat} (h : 1 ≤ k ∧ k ≤ 6) : ((.int .u8 k : Value), kdAt k) ∈ kindsL := by
  have : k = 1 ∨ k = 2 ∨ k = 3 ∨ k = 4 ∨ k = 5 ∨ k = 6 := by omega
  unfold kindsL
  rcases this with rfl | rfl | rfl | rfl | rfl | rfl
  · exact .head _
  · exact .tail _ (.head _)
  · exact .tail _ (.tail _ (.head _))
  · exact .tail _ (.tail _ (.tail _ (.head _)))
  · exact .tail _ (.tail _ (.tail _ (.tail _ (.head _))))
  · exact .tail _ (.tail _ (.tail _ (.tail _ (.tail _ (.head _)))))
theorem text_kind {t : List UInt8} (h : (textS t).2 = false) : kindS t ≠ 1 := by
  unfold textS at h
  split at h
  · simp at h
  · rename_i h1; exact fun e => h1 (.inl e)
theorem get_small {k : Nat} {x : Tx} {r : List (List UInt8)} {m : Msg} (h : getO k (m0 k x) r = some m) (hr : ∀ t ∈ r, checkS t = 0) (hk : 1 ≤ k ∧ k ≤ 6) (hn : mnAt k ≤ r.length ∧ r.length ≤ mxAt k) : m.k = k ∧ m.body.length ≤ 16384 ∧ m.tag.length ≤ 16384 ∧ m.mbs.length ≤ 6 ∧ ∀ x ∈ m.mbs, x.2.length ≤ 16384 := by
  have hd : ∀ (i : Nat), (r.getD i []).length ≤ 16384 := by
    intro i
    by_cases hi : i < r.length
    · have : r.getD i [] = r[i] := by simp [List.getD, hi]
      rw [this]
      exact (check0 (hr _ (List.getElem_mem hi))).2.2.1
    · have : r.getD i [] = [] := by simp [List.getD, List.getElem?_eq_none (Nat.le_of_not_lt hi)]
      rw [this]; simp
  refine ⟨(of_rows h hk hn).2.2, ?_⟩
  unfold getO at h
  split at h
  · split at h
    · cases hu : unmbS (m0 ((1 : Nat) : Int) x).tx.1 (r.getD 1 []) with
      | none => rw [hu] at h; simp at h
      | some mb =>
        rw [hu] at h
        simp only [Option.map_some, Option.some.injEq] at h
        subst h
        have hB := (unmb_back hu).2
        unfold mbB at hB
        rw [Bool.and_eq_true] at hB
        refine ⟨hd 2, by simp [m0], (of_decide_eq_true hB.2).2, fun y hy => (check0 (mbs_el hB.1 y hy).2.2).2.2.1⟩
    · simp at h
  · cases hq : k6O (r.getD 0 []) r.length (r.getD 1 []) with
    | none => rw [hq] at h; simp at h
    | some q =>
      rw [hq] at h
      simp only [Option.map_some, Option.some.injEq] at h
      subst h
      refine ⟨by simp [m0], ?_, by simp [m0], by simp [m0]⟩
      have h1 := hd 1
      unfold k6O at hq
      cases hu : unyesO (r.getD 0 []) with
      | none => rw [hu] at hq; simp at hq
      | some v =>
        rw [hu] at hq
        simp only at hq
        split at hq
        · simp only [Option.some.injEq] at hq
          subst hq
          simp only
          split
          · exact h1
          · simp
        · simp at hq
  · cases hq : unyesO (r.getD 0 []) with
    | none => rw [hq] at h; simp at h
    | some q =>
      rw [hq] at h
      simp only [Option.map_some, Option.some.injEq] at h
      subst h
      exact ⟨by simp [m0], by simp [m0], by simp [m0], by simp [m0]⟩
  · simp only [Option.some.injEq] at h
    subst h
    exact ⟨by simp [m0], by simp [m0], by simp [m0], by simp [m0]⟩
theorem tail_at {b o c : Nat} : ∃ o2, (if (c : Int) = 1 then some (⟨b, o, none⟩ : Addr) else some ((⟨b, o, none⟩ : Addr).add 1)) = some ⟨b, o2, none⟩ := by
  by_cases h : (c : Int) = 1
  · rw [if_pos h]; exact ⟨o, rfl⟩
  · rw [if_neg h, addr_add]; exact ⟨o + 1, rfl⟩
theorem rd_tail {w : World} {b o c n : Nat} {x : Value} {xs : List Value} (h : Rd w 1 (.slice (some ⟨b, o, none⟩) (n + 1) c) (n + 1) (x :: xs)) : Rd w 1 (.slice (if (c : Int) = 1 then some (⟨b, o, none⟩ : Addr) else some ((⟨b, o, none⟩ : Addr).add 1)) n (c - 1)) n xs := by
  obtain ⟨hl, a, cap, e, hc, hg⟩ := h
  rw [Value.slice.injEq] at e
  obtain ⟨rfl, -, rfl⟩ := e
  simp only [List.length_cons] at hl
  refine ⟨by omega, _, _, rfl, by omega, fun j u hj => ?_⟩
  by_cases h1 : (c : Int) = 1
  · have : xs = [] := List.length_eq_zero_iff.1 (by omega)
    subst this
    simp at hj
  · rw [if_neg h1, addr_add]
    obtain ⟨b', o', e', hv⟩ := hg (j + 1) u (by simpa using hj)
    simp only [Option.some.injEq, Addr.mk.injEq] at e'
    obtain ⟨rfl, rfl, -⟩ := e'
    exact ⟨b, o + 1, rfl, by rw [← hv]; congr 2; omega⟩
theorem st9 {w : World} {p t : Nat} {a0 a1 a2 a3 a4 a5 a6 a7 a8 x0 x1 x2 x3 x4 x5 x6 x7 x8 : Value} (h : w.heap[p]? = some (.cells #[a0, a1, a2, a3, a4, a5, a6, a7, a8] t)) : (((((((((w.setCell ⟨p, 0, none⟩ x0).setCell ⟨p, 1, none⟩ x1).setCell ⟨p, 2, none⟩ x2).setCell ⟨p, 3, none⟩ x3).setCell ⟨p, 4, none⟩ x4).setCell ⟨p, 5, none⟩ x5).setCell ⟨p, 6, none⟩ x6).setCell ⟨p, 7, none⟩ x7).setCell ⟨p, 8, none⟩ x8).heap[p]? = some (.cells #[x0, x1, x2, x3, x4, x5, x6, x7, x8] t) := by
  have h0 : (w.setCell ⟨p, 0, none⟩ x0).heap[p]? = some (.cells #[x0, a1, a2, a3, a4, a5, a6, a7, a8] t) := by rw [heapSet h]; rfl
  revert h0
  generalize w.setCell ⟨p, 0, none⟩ x0 = w1
  intro h0
  have h1 : (w1.setCell ⟨p, 1, none⟩ x1).heap[p]? = some (.cells #[x0, x1, a2, a3, a4, a5, a6, a7, a8] t) := by rw [heapSet h0]; rfl
  revert h1
  generalize w1.setCell ⟨p, 1, none⟩ x1 = w2
  intro h1
  have h2 : (w2.setCell ⟨p, 2, none⟩ x2).heap[p]? = some (.cells #[x0, x1, x2, a3, a4, a5, a6, a7, a8] t) := by rw [heapSet h1]; rfl
  revert h2
  generalize w2.setCell ⟨p, 2, none⟩ x2 = w3
  intro h2
  have h3 : (w3.setCell ⟨p, 3, none⟩ x3).heap[p]? = some (.cells #[x0, x1, x2, x3, a4, a5, a6, a7, a8] t) := by rw [heapSet h2]; rfl
  revert h3
  generalize w3.setCell ⟨p, 3, none⟩ x3 = w4
  intro h3
  have h4 : (w4.setCell ⟨p, 4, none⟩ x4).heap[p]? = some (.cells #[x0, x1, x2, x3, x4, a5, a6, a7, a8] t) := by rw [heapSet h3]; rfl
  revert h4
  generalize w4.setCell ⟨p, 4, none⟩ x4 = w5
  intro h4
  have h5 : (w5.setCell ⟨p, 5, none⟩ x5).heap[p]? = some (.cells #[x0, x1, x2, x3, x4, x5, a6, a7, a8] t) := by rw [heapSet h4]; rfl
  revert h5
  generalize w5.setCell ⟨p, 5, none⟩ x5 = w6
  intro h5
  have h6 : (w6.setCell ⟨p, 6, none⟩ x6).heap[p]? = some (.cells #[x0, x1, x2, x3, x4, x5, x6, a7, a8] t) := by rw [heapSet h5]; rfl
  revert h6
  generalize w6.setCell ⟨p, 6, none⟩ x6 = w7
  intro h6
  have h7 : (w7.setCell ⟨p, 7, none⟩ x7).heap[p]? = some (.cells #[x0, x1, x2, x3, x4, x5, x6, x7, a8] t) := by rw [heapSet h6]; rfl
  revert h7
  generalize w7.setCell ⟨p, 7, none⟩ x7 = w8
  intro h7
  have h8 : (w8.setCell ⟨p, 8, none⟩ x8).heap[p]? = some (.cells #[x0, x1, x2, x3, x4, x5, x6, x7, x8] t) := by rw [heapSet h7]; rfl
  revert h8
  generalize w8.setCell ⟨p, 8, none⟩ x8 = w9
  intro h8
  exact h8
end Go.Proofs.Ytpcilobbohokcaa
