/-
  wire: what is encoded is decoded, and what is decoded is encoded as it was (plain).
-/
import Derived.Test.YtpcilobbohokcaaWirP
set_option linter.unusedSimpArgs false
set_option linter.unusedVariables false
namespace Go.Proofs.Ytpcilobbohokcaa
open Go Go.Wk Go.RowKit
attribute [local irreducible] go Hold
open Go.Lib
/-- The parts of a message's term. -/
def encL (k : Nat) (m : Msg) : List (List UInt8) := (dataS (wordS k)).1 :: ((if k = 6 then [] else [(txnS m.tx).1]) ++ rowsL k m)
def encS (k : Nat) (m : Msg) : List UInt8 × Int := if checkB k m = true then (if (encL k m).any (·.isEmpty) = true then ([], 5) else madeS (114 :: numL (encL k m).length) (encL k m)) else ([], 2)
def wordN (w : List UInt8) : Nat := if w = wordS 1 then 1 else if w = wordS 2 then 2 else if w = wordS 3 then 3 else if w = wordS 4 then 4 else if w = wordS 5 then 5 else if w = wordS 6 then 6 else 0
def txL (k : Nat) (l : List (List UInt8)) : Option (Tx × List (List UInt8)) := if k = 6 then some ((0, 0, 0), l) else match l with
  | t :: r => (untxO t).map (·, r)
  | [] => none
def decR (k : Nat) (x : Tx) (r : List (List UInt8)) : Option Msg := if mnAt k ≤ r.length ∧ r.length ≤ mxAt k then (match getO k (m0 k x) r with
  | some m => if checkB k m = true then some m else none
  | none => none) else none
def decK (k : Nat) (l : List (List UInt8)) : Option Msg := match txL k l with
  | some (x, r) => decR k x r
  | none => none
def decO (S : List UInt8) : Option Msg := match rowO S 1 5 with
  | some l => if kindS (l.getD 0 []) = 1 then (if wordN (textS (l.getD 0 [])).1 = 0 then none else decK (wordN (textS (l.getD 0 [])).1) (l.drop 1)) else none
  | none => none
theorem word_of {k : Nat} (h : 1 ≤ k ∧ k ≤ 6) : wordN (wordS k) = k := by
  have : k = 1 ∨ k = 2 ∨ k = 3 ∨ k = 4 ∨ k = 5 ∨ k = 6 := by omega
  rcases this with rfl | rfl | rfl | rfl | rfl | rfl <;> rfl
theorem of_word {w : List UInt8} {k : Nat} (h : wordN w = k) (h0 : k ≠ 0) : w = wordS k ∧ 1 ≤ k ∧ k ≤ 6 := by
  unfold wordN at h
  repeat' split at h
  all_goals first | (subst h; exact ⟨by assumption, by omega, by omega⟩) | (exact absurd h.symm h0)
theorem word_data {k : Nat} (h : 1 ≤ k ∧ k ≤ 6) : dataS (wordS k) = ((dataS (wordS k)).1, 0) := by
  have : k = 1 ∨ k = 2 ∨ k = 3 ∨ k = 4 ∨ k = 5 ∨ k = 6 := by omega
  rcases this with rfl | rfl | rfl | rfl | rfl | rfl <;> rfl
theorem check_is {k : Nat} {m : Msg} (h : checkB k m = true) : (1 ≤ k ∧ k ≤ 6) ∧ idleB m = true ∧ (k = 6 ∨ txB m.tx = true) ∧ formB k m = true := by
  unfold checkB at h
  simp only [Bool.and_eq_true, Bool.or_eq_true, decide_eq_true_eq] at h
  exact ⟨of_decide_eq_true h.1.1.1, h.1.1.2, h.1.2, h.2⟩
theorem idle_is {m : Msg} (h : idleB m = true) : (¬ m.k = 1 → m.aud = 0 ∧ m.mbs = [] ∧ m.body = []) ∧ (¬ m.k = 2 → ¬ m.k = 3 → m.yes = false) ∧ (¬ m.k = 2 → m.tag = []) ∧ (m.k = 6 → m.tx = (0, 0, 0)) := by
  unfold idleB at h
  split at h
  · simp at h
  · rename_i h1
    split at h
    · simp at h
    · rename_i h2
      have h3 := of_decide_eq_true h
      refine ⟨fun hk => ?_, fun hk hk3 => ?_, fun hk => ?_, fun hk => ?_⟩
      · refine ⟨?_, ?_, ?_⟩
        · exact Decidable.byContradiction fun g => h1 ⟨hk, .inl g⟩
        · exact List.length_eq_zero_iff.1 (Decidable.byContradiction fun g => h1 ⟨hk, .inr (.inl g)⟩)
        · exact Decidable.byContradiction fun g => h1 ⟨hk, .inr (.inr g)⟩
      · cases hy : m.yes
        · rfl
        · exact absurd (.inl ⟨by omega, hy⟩) h2
      · exact Decidable.byContradiction fun g => h2 (.inr ⟨hk, g⟩)
      · rcases h3 with h3 | h3
        · exact absurd hk h3
        · exact h3
theorem rows_back {k : Nat} {m : Msg} (hk0 : m.k = k) (hc : checkB k m = true) (hne : ∀ t ∈ rowsL k m, t ≠ []) : getO k (m0 k m.tx) (rowsL k m) = some m ∧ mnAt k ≤ (rowsL k m).length ∧ (rowsL k m).length ≤ mxAt k := by
  obtain ⟨hk, hi, -, hf⟩ := check_is hc
  obtain ⟨i1, i2, i3, i4⟩ := idle_is hi
  obtain ⟨k', tx, aud, mbs, body, yes, tag⟩ := m
  simp only at hk0 i1 i2 i3 i4
  subst hk0
  have hkk : k = 1 ∨ k = 2 ∨ k = 3 ∨ k = 4 ∨ k = 5 ∨ k = 6 := by omega
  rcases hkk with rfl | rfl | rfl | hk4
  · obtain hy := i2 (by omega) (by omega)
    obtain ht := i3 (by omega)
    subst hy ht
    have hf' : k1B ⟨((1 : Nat) : Int), tx, aud, mbs, body, false, []⟩ = true := hf
    unfold k1B at hf'
    simp only [Bool.and_eq_true] at hf'
    have ho := of_decide_eq_true hf'.1.1
    obtain ⟨n, rfl⟩ : ∃ n : Nat, aud = n := ⟨aud.toNat, by omega⟩
    have hm : (mbrsS tx.1 mbs).1 ≠ [] := hne _ (by simp [rowsL, k2L])
    refine ⟨?_, by simp [rowsL, k2L, mnAt], by simp [rowsL, k2L, mxAt]⟩
    show (match numT (numE (n : Int)) with
      | some v => (unmbS tx.1 (mbrsS tx.1 mbs).1).map fun mb => ({ m0 ((1 : Nat) : Int) tx with aud := (v : Int), mbs := mb, body := body } : Msg)
      | none => none) = _
    rw [numT_of n (by omega)]
    simp only
    rw [of_unmb (mbrs_ne hm)]
    rfl
  · obtain ⟨rfl, rfl, rfl⟩ := i1 (by omega)
    have hf' : k4B ⟨((2 : Nat) : Int), tx, 0, [], [], yes, tag⟩ = true := hf
    unfold k4B at hf'
    simp only [Bool.and_eq_true] at hf'
    cases yes
    · have : tag = [] := by
        have := hf'.1
        simpa using this
      subst this
      refine ⟨?_, by simp [rowsL, k5L, mnAt], by simp [rowsL, k5L, mxAt]⟩
      show (k6O (yesS false) 1 []).map (fun v => ({ m0 ((2 : Nat) : Int) tx with yes := v.1, tag := v.2 } : Msg)) = _
      unfold k6O
      rw [yes_back]
      rfl
    · refine ⟨?_, by simp [rowsL, k5L, mnAt], by simp [rowsL, k5L, mxAt]⟩
      show (k6O (yesS true) 2 tag).map (fun v => ({ m0 ((2 : Nat) : Int) tx with yes := v.1, tag := v.2 } : Msg)) = _
      unfold k6O
      rw [yes_back]
      rfl
  · obtain ⟨rfl, rfl, rfl⟩ := i1 (by omega)
    obtain ht := i3 (by omega)
    subst ht
    refine ⟨?_, by simp [rowsL, mnAt], by simp [rowsL, mxAt]⟩
    show (unyesO (yesS yes)).map (fun v => ({ m0 ((3 : Nat) : Int) tx with yes := v } : Msg)) = _
    rw [yes_back]
    rfl
  · obtain ⟨rfl, rfl, rfl⟩ := i1 (by omega)
    obtain hy := i2 (by omega) (by omega)
    obtain ht := i3 (by omega)
    subst hy ht
    rcases hk4 with rfl | rfl | rfl <;> exact ⟨rfl, Nat.le_refl 0, Nat.le_refl 0⟩
theorem of_rows {k : Nat} {x : Tx} {r : List (List UInt8)} {m : Msg} (h : getO k (m0 k x) r = some m) (hk : 1 ≤ k ∧ k ≤ 6) (hn : mnAt k ≤ r.length ∧ r.length ≤ mxAt k) : rowsL k m = r ∧ m.tx = x ∧ m.k = k := by
  have hkk : k = 1 ∨ k = 2 ∨ k = 3 ∨ (k = 4 ∨ k = 5 ∨ k = 6) := by omega
  rcases hkk with rfl | rfl | rfl | hk4
  · obtain ⟨t0, t1, t2, rfl⟩ := len3' (show r.length = 3 by simp only [mnAt, mxAt] at hn; omega)
    simp only [getO, List.getD_cons_zero, List.getD_cons_succ] at h
    split at h
    · rename_i v hv
      cases hu : unmbS (m0 ((1 : Nat) : Int) x).tx.1 t1 with
      | none => rw [hu] at h; simp at h
      | some mb =>
        rw [hu] at h
        simp only [Option.map_some, Option.some.injEq] at h
        subst h
        refine ⟨?_, rfl, rfl⟩
        have := (unmb_back hu).1
        show [numE (v : Int), (mbrsS x.1 mb).1, t2] = _
        rw [← (of_numT hv).1]
        rw [show (m0 ((1 : Nat) : Int) x).tx.1 = x.1 from rfl] at this
        rw [this]
    · simp at h
  · simp only [mnAt, mxAt] at hn
    obtain ⟨t0, r', rfl⟩ := lenRest hn.1
    simp only [List.length_cons] at hn
    have h : (k6O t0 (r'.length + 1) ((t0 :: r').getD 1 [])).map (fun v => ({ m0 ((2 : Nat) : Int) x with yes := v.1, tag := v.2 } : Msg)) = some m := h
    cases hv : unyesO t0 with
    | none => rw [show k6O t0 (r'.length + 1) ((t0 :: r').getD 1 []) = none from by unfold k6O; rw [hv]] at h; simp at h
    | some v =>
      by_cases h2 : v = decide (r'.length + 1 = 2)
      · rw [show k6O t0 (r'.length + 1) ((t0 :: r').getD 1 []) = some (v, if v = true then (t0 :: r').getD 1 [] else []) from by unfold k6O; rw [hv]; simp only; rw [if_pos h2]] at h
        simp only [Option.map_some, Option.some.injEq] at h
        subst h
        refine ⟨?_, rfl, rfl⟩
        have ht0 := of_unyes hv
        cases hb : v
        · subst hb
          have : ¬ (r'.length + 1 = 2) := of_decide_eq_false h2.symm
          have : r' = [] := List.length_eq_zero_iff.1 (by omega)
          subst this
          rw [ht0]; rfl
        · subst hb
          have : r'.length + 1 = 2 := of_decide_eq_true h2.symm
          obtain ⟨t1, rfl⟩ := List.length_eq_one_iff.1 (show r'.length = 1 by omega)
          rw [ht0]; rfl
      · rw [show k6O t0 (r'.length + 1) ((t0 :: r').getD 1 []) = none from by unfold k6O; rw [hv]; simp only; rw [if_neg h2]] at h
        simp at h
  · simp only [mnAt, mxAt] at hn
    obtain ⟨t0, rfl⟩ := List.length_eq_one_iff.1 (show r.length = 1 by omega)
    simp only [getO, List.getD_cons_zero] at h
    cases hu : unyesO t0 with
    | none => rw [hu] at h; simp at h
    | some v =>
      rw [hu] at h
      simp only [Option.map_some, Option.some.injEq] at h
      subst h
      exact ⟨by rw [of_unyes hu]; rfl, rfl, rfl⟩
  · have hr : r = [] := by
      rcases hk4 with rfl | rfl | rfl <;> (simp only [mnAt, mxAt] at hn; exact List.length_eq_zero_iff.1 (by omega))
    subst hr
    rcases hk4 with rfl | rfl | rfl <;> (simp only [getO, Option.some.injEq] at h; subst h; exact ⟨rfl, rfl, rfl⟩)
/-- What is encoded is decoded. -/
theorem dec_enc {k : Nat} {m : Msg} {a : List UInt8} (hk0 : m.k = k) (h : encS k m = (a, 0)) : decO a = some m := by
  unfold encS at h
  split at h
  · rename_i hc
    split at h
    · simp at h
    · rename_i hne
      obtain ⟨hk, -, htx, -⟩ := check_is hc
      have hne' : ∀ t ∈ encL k m, t ≠ [] := by
        intro t ht e
        subst e
        exact hne (List.any_eq_true.2 ⟨[], ht, rfl⟩)
      obtain ⟨hg, hn1, hn2⟩ := rows_back hk0 hc fun t ht => hne' t (by unfold encL; simp [ht])
      have hmx : mxAt k ≤ 3 := by unfold mxAt; split <;> omega
      have hlen : 1 ≤ (encL k m).length ∧ (encL k m).length ≤ 5 := by
        unfold encL
        simp only [List.length_cons, List.length_append]
        split <;> simp only [List.length_nil, List.length_cons] <;> omega
      obtain ⟨hdk, hdt⟩ := data_of (word_data hk)
      unfold decO
      rw [rowO_of hlen (by decide) h]
      unfold encL
      simp only [List.getD_cons_zero, List.drop_succ_cons, List.drop_zero]
      rw [if_pos hdk, hdt, word_of hk, if_neg (by omega)]
      have hT : txL k ((if k = 6 then [] else [(txnS m.tx).1]) ++ rowsL k m) = some (m.tx, rowsL k m) := by
        unfold txL
        by_cases h6 : k = 6
        · rw [if_pos h6, if_pos h6, List.nil_append]
          have := (idle_is (check_is hc).2.1).2.2.2 (by omega)
          rw [this]
        · rw [if_neg h6, if_neg h6]
          simp only [List.cons_append, List.nil_append]
          have hx : (txnS m.tx).1 ≠ [] := hne' _ (by unfold encL; rw [if_neg h6]; simp)
          rw [(txn_back (txn_ne hx)).1]
          rfl
      unfold decK
      rw [hT]
      simp only
      unfold decR
      rw [if_pos ⟨hn1, hn2⟩, hg]
      simp only
      rw [if_pos hc]
  · simp at h
/-- What is decoded is encoded as it was. -/
theorem enc_dec {S : List UInt8} {m : Msg} (h : decO S = some m) : ∃ k : Nat, m.k = k ∧ (1 ≤ k ∧ k ≤ 6) ∧ checkB k m = true ∧ encS k m = (S, 0) := by
  unfold decO at h
  split at h
  · rename_i l hl
    obtain ⟨hm, hch, h1, h5⟩ := of_rowO hl
    obtain ⟨t0, r, rfl⟩ := lenRest h1
    simp only [List.getD_cons_zero, List.drop_succ_cons, List.drop_zero] at h
    split at h
    · rename_i hk1
      split at h
      · simp at h
      · rename_i hw0
        generalize hk : wordN (textS t0).1 = k at h hw0
        obtain ⟨hw, hkk⟩ := of_word hk hw0
        have hd := of_data hk1
        rw [hw] at hd
        unfold decK at h
        split at h
        · rename_i x q hT
          unfold decR at h
          split at h
          · rename_i hn
            split at h
            · rename_i m' hg
              split at h
              · rename_i hc
                simp only [Option.some.injEq] at h
                subst h
                obtain ⟨e1, e2, e3⟩ := of_rows hg hkk hn
                have he : encL k m' = t0 :: r := by
                  unfold encL
                  rw [hd, e1, e2]
                  unfold txL at hT
                  by_cases h6 : k = 6
                  · rw [if_pos h6] at hT ⊢
                    simp only [Option.some.injEq, Prod.mk.injEq] at hT
                    rw [hT.2]; rfl
                  · rw [if_neg h6] at hT ⊢
                    split at hT
                    · rename_i t r'
                      cases hu : untxO t with
                      | none => rw [hu] at hT; simp at hT
                      | some y =>
                        rw [hu] at hT
                        simp only [Option.map_some, Option.some.injEq, Prod.mk.injEq] at hT
                        rw [← hT.1, of_untx hu, hT.2]; rfl
                    · simp at hT
                refine ⟨k, e3, hkk, hc, ?_⟩
                unfold encS
                rw [if_pos hc, he, if_neg, hm]
                intro ha
                obtain ⟨t, ht, he⟩ := List.any_eq_true.1 ha
                have := hch t ht
                rw [List.isEmpty_iff.1 he] at this
                exact checkS_nil this
              · simp at h
            · simp at h
          · simp at h
        · simp at h
    · simp at h
  · simp at h
end Go.Proofs.Ytpcilobbohokcaa
