/-
  The message that the reference builds of a term's parts (plain).
-/
import Derived.Test.YtpcilobbohokcaaGreatWrdRefI
set_option linter.unusedSimpArgs false
set_option linter.unusedVariables false
set_option maxRecDepth 20000
namespace Go.Proofs.YtpcilobbohokcaaGreat
open Go Go.Wk Go.RowKit
attribute [local irreducible] go Hold
open Go.Lib
def rdTx (l : List (List UInt8)) : Tx := if 1 < l.length then (untxO (l.getD 1 [])).getD (0, 0, 0) else (0, 0, 0)
def rdM (k : Nat) (l : List (List UInt8)) : Msg :=
  if k = 1 ∧ l.length = 5 then ⟨k, rdTx l, (((numT (l.getD 2 [])).getD 0 : Nat) : Int), (unmbS (rdTx l).1 (l.getD 3 [])).getD [], l.getD 4 [], false, []⟩
  else ⟨k, rdTx l, 0, [], [], decide ((k = 2 ∨ k = 3) ∧ 2 < l.length ∧ l.getD 2 [] = numE 1), if k = 2 ∧ 3 < l.length then l.getD 3 [] else []⟩
theorem rdM_k (k : Nat) (l : List (List UInt8)) : (rdM k l).k = k := by unfold rdM; split <;> rfl
theorem enc_is {k : Nat} {m : Msg} {S : List UInt8} (h : encS k m = (S, 0)) : checkB k m = true ∧ (∀ t ∈ encL k m, t ≠ []) ∧ kindS S = 3 ∧ partsS S = encL k m := by
  have h0 := h
  unfold encS at h
  split at h
  · rename_i hc
    split at h
    · simp at h
    · rename_i ha
      refine ⟨hc, fun t ht e => ha (List.any_eq_true.2 ⟨t, ht, by rw [e]; rfl⟩), ?_⟩
      have hl : (encL k m).length ≤ 5 := by
        unfold encL
        have := rowsL_len k m
        simp only [List.length_cons, List.length_append]
        split <;> simp only [List.length_nil, List.length_cons] <;> omega
      exact row_of (by omega) h
  · simp at h
theorem yes_1 : yesS true = numE 1 := rfl
theorem yes_0 : ¬ yesS false = numE 1 := fun h => by
  have h1 := yes_back false
  rw [h, ← yes_1, yes_back true] at h1
  simp at h1
theorem rdM_back {k : Nat} {m : Msg} {S : List UInt8} (hk0 : m.k = k) (h : encS k m = (S, 0)) : rdM k (encL k m) = m := by
  obtain ⟨hc, hne, -, -⟩ := enc_is h
  obtain ⟨hk, hi, htx, hf⟩ := check_is hc
  obtain ⟨i1, i2, i3, i4⟩ := idle_is hi
  obtain ⟨k', tx, aud, mbs, body, yes, tag⟩ := m
  simp only at hk0 i1 i2 i3 i4 htx
  subst hk0
  have hun : k ≠ 6 → untxO (txnS tx).1 = some tx := fun h6 => by
    have := txn_ok (htx.resolve_left h6)
    exact (txn_back (Prod.ext rfl this.1)).1
  have hkk : k = 1 ∨ k = 2 ∨ k = 3 ∨ k = 6 ∨ k = 4 ∨ k = 5 := by omega
  rcases hkk with rfl | rfl | rfl | rfl | hk4
  · obtain hy := i2 (by omega) (by omega)
    obtain ht := i3 (by omega)
    subst hy ht
    have hf' : k1B ⟨((1 : Nat) : Int), tx, aud, mbs, body, false, []⟩ = true := hf
    unfold k1B at hf'
    simp only [Bool.and_eq_true] at hf'
    have ho := of_decide_eq_true hf'.1.1
    obtain ⟨n, rfl⟩ : ∃ n : Nat, aud = n := ⟨aud.toNat, by omega⟩
    have hm : (mbrsS tx.1 mbs).1 ≠ [] := hne _ (by simp [encL, rowsL, k2L])
    have hL : encL 1 ⟨((1 : Nat) : Int), tx, n, mbs, body, false, []⟩ = [(dataS (wordS 1)).1, (txnS tx).1, numE n, (mbrsS tx.1 mbs).1, body] := rfl
    rw [hL]
    have hT : rdTx [(dataS (wordS 1)).1, (txnS tx).1, numE n, (mbrsS tx.1 mbs).1, body] = tx := by
      unfold rdTx
      rw [if_pos (by simp)]
      simp only [List.getD_cons_zero, List.getD_cons_succ]
      rw [hun (by decide)]
      rfl
    unfold rdM
    rw [if_pos ⟨rfl, rfl⟩, hT]
    simp only [List.getD_cons_zero, List.getD_cons_succ]
    rw [numT_of n (by omega), of_unmb (mbrs_ne hm)]
    rfl
  · obtain ⟨rfl, rfl, rfl⟩ := i1 (by omega)
    have hf' : k4B ⟨((2 : Nat) : Int), tx, 0, [], [], yes, tag⟩ = true := hf
    unfold k4B at hf'
    simp only [Bool.and_eq_true] at hf'
    cases yes
    · have : tag = [] := by
        have := hf'.1
        simpa using this
      subst this
      have hL : encL 2 ⟨((2 : Nat) : Int), tx, 0, [], [], false, []⟩ = [(dataS (wordS 2)).1, (txnS tx).1, yesS false] := rfl
      rw [hL]
      unfold rdM rdTx
      rw [if_neg (by simp), if_pos (by simp)]
      simp only [List.getD_cons_zero, List.getD_cons_succ]
      rw [hun (by decide), decide_eq_false (fun h => yes_0 h.2.2)]
      rfl
    · have hL : encL 2 ⟨((2 : Nat) : Int), tx, 0, [], [], true, tag⟩ = [(dataS (wordS 2)).1, (txnS tx).1, yesS true, tag] := rfl
      rw [hL]
      unfold rdM rdTx
      rw [if_neg (by simp), if_pos (by simp)]
      simp only [List.getD_cons_zero, List.getD_cons_succ]
      rw [hun (by decide), decide_eq_true (by refine ⟨?_, by simp, yes_1⟩; simp)]
      rfl
  · obtain ⟨rfl, rfl, rfl⟩ := i1 (by omega)
    obtain ht := i3 (by omega)
    subst ht
    have hL : encL 3 ⟨((3 : Nat) : Int), tx, 0, [], [], yes, []⟩ = [(dataS (wordS 3)).1, (txnS tx).1, yesS yes] := rfl
    rw [hL]
    unfold rdM rdTx
    rw [if_neg (by simp), if_pos (by simp)]
    simp only [List.getD_cons_zero, List.getD_cons_succ]
    rw [hun (by decide)]
    cases yes
    · rw [decide_eq_false (fun h => yes_0 h.2.2)]
      rfl
    · rw [decide_eq_true (by refine ⟨?_, by simp, yes_1⟩; simp)]
      rfl
  · obtain ⟨rfl, rfl, rfl⟩ := i1 (by omega)
    obtain ht := i3 (by omega)
    obtain hy := i2 (by omega) (by omega)
    obtain hx := i4 rfl
    subst ht hy hx
    rfl
  · obtain ⟨rfl, rfl, rfl⟩ := i1 (by omega)
    obtain ht := i3 (by omega)
    obtain hy := i2 (by omega) (by omega)
    subst ht hy
    have hL : encL k ⟨(k : Int), tx, 0, [], [], false, []⟩ = [(dataS (wordS k)).1, (txnS tx).1] := by rcases hk4 with rfl | rfl <;> rfl
    rw [hL]
    unfold rdM rdTx
    rw [if_neg (by simp), if_pos (by simp)]
    simp only [List.getD_cons_zero, List.getD_cons_succ]
    rw [hun (by omega), decide_eq_false (fun h => by have := h.1; omega), if_neg (by simp)]
    rfl
theorem rd_some {k : Nat} {S : List UInt8} (h : encS k (rdM k (partsS S)) = (S, 0)) : decO S = some (rdM k (partsS S)) := dec_enc (rdM_k k _) h
theorem rd_none {S : List UInt8} (h : ∀ k, 1 ≤ k → k ≤ 6 → (textS ((partsS S).getD 0 [])).1 = wordS k → ¬ encS k (rdM k (partsS S)) = (S, 0)) : decO S = none := by
  cases hd : decO S with
  | none => rfl
  | some m =>
    obtain ⟨k, hk0, hk, -, he⟩ := enc_dec hd
    obtain ⟨hc, hne, hr, hp⟩ := enc_is he
    refine absurd ?_ (h k hk.1 hk.2 ?_)
    · rw [hp, rdM_back hk0 he]; exact he
    · rw [hp]
      unfold encL
      rw [List.getD_cons_zero, (data_of (word_data hk)).2]
theorem rd_none0 {S : List UInt8} (h : kindS S = 3 → partsS S = []) : decO S = none := by
  cases hd : decO S with
  | none => rfl
  | some m =>
    obtain ⟨k, hk0, hk, -, he⟩ := enc_dec hd
    obtain ⟨hc, hne, hr, hp⟩ := enc_is he
    have := h hr
    rw [hp] at this
    unfold encL at this
    simp at this
end Go.Proofs.YtpcilobbohokcaaGreat
