/-
  wire: what a message's term says, and what it is made of again (plain).
-/
import Derived.Test.YtpcilobbohokcaaWirJ
set_option linter.unusedSimpArgs false
set_option linter.unusedVariables false
namespace Go.Proofs.Ytpcilobbohokcaa
open Go Go.Wk Go.RowKit
attribute [local irreducible] go Hold
open Go.Lib
theorem row_of {l : List (List UInt8)} (hl : l.length ≤ 9223372036854775807) {a : List UInt8} (h : madeS (114 :: numL l.length) l = (a, 0)) : kindS a = 3 ∧ partsS a = l := by
  obtain ⟨K, tr, e⟩ := rowMade_is hl h
  refine ⟨?_, by rw [tr.parts, e]⟩
  unfold kindS; rw [if_pos tr.ok, tr.1]; rfl
theorem of_row {S : List UInt8} (h : kindS S = 3) : madeS (114 :: numL (partsS S).length) (partsS S) = (S, 0) := by
  rcases opens_plain (kind_chk h (by decide)) with h1 | h1 | h1 | h1 | h1 | h1
  · have := h1.1; omega
  · have := h1.1; omega
  · exact h1.2.2
  · have := h1.1; omega
  · have := h1.1; omega
  · have := h1.1; omega
theorem data_of {s t : List UInt8} (h : dataS s = (t, 0)) : kindS t = 1 ∧ textS t = (s, true) := by
  unfold dataS at h
  split at h
  · simp at h
  · rename_i hs
    simp only [Prod.mk.injEq, and_true] at h
    subst h
    have hn : (numL s.length).length ≤ 9 := numL_len (by omega)
    have tr : Tr (100 :: (numL s.length ++ s)) (100 :: (numL s.length ++ s)) .nil := by
      refine ⟨by simp [encF], .inl ⟨rfl, s, by omega, rfl⟩, trivial, by simp [hgtF], ?_⟩
      simp only [List.length_cons, List.length_append]
      omega
    have hk : kindS (100 :: (numL s.length ++ s)) = 1 := by unfold kindS; rw [if_pos tr.ok]; rfl
    refine ⟨hk, ?_⟩
    unfold textS
    rw [if_pos (.inl hk), List.drop_succ_cons, List.drop_zero]
    have := readText_of s 1024 (by omega) (by omega) []
    rw [List.append_nil] at this
    rw [this]
theorem of_data {t : List UInt8} (h : kindS t = 1) : dataS (textS t).1 = (t, 0) := by
  rcases opens_plain (kind_chk h (by decide)) with h1 | h1 | h1 | h1 | h1 | h1
  · obtain ⟨_, _, s, h2, h3⟩ := h1
    rw [h2]; exact h3
  · have := h1.1; omega
  · have := h1.1; omega
  · have := h1.1; omega
  · have := h1.1; omega
  · have := h1.1; omega
theorem numE_data (v : Nat) (h : v ≤ 2147483647) : dataS (numL v) = (numE (v : Int), 0) := by
  have hn : numS (v : Int) = dataS (numL v) := by unfold numS; rw [if_neg (by omega), Int.toNat_natCast]
  have hl : (numL v).length ≤ 9 := numL_len (by omega)
  have hd : (dataS (numL v)).2 = 0 := by unfold dataS; rw [if_neg (by omega)]
  unfold numE
  rw [hn, ← hd]
theorem numT_of (v : Nat) (h : v ≤ 2147483647) : numT (numE (v : Int)) = some v := by
  obtain ⟨hk, ht⟩ := data_of (numE_data v h)
  have hr := readNum_of v (by omega) []
  rw [List.append_nil] at hr
  unfold numT
  rw [ht, hk]
  simp only
  rw [hr, if_pos ⟨trivial, rfl, rfl, h⟩]
theorem of_numT {S : List UInt8} {v : Nat} (h : numT S = some v) : S = numE (v : Int) ∧ v ≤ 2147483647 := by
  unfold numT at h
  split at h
  · rename_i hc
    obtain ⟨hk, he, hn, hv⟩ := hc
    simp only [Option.some.injEq] at h
    have hd := of_data hk
    rw [h] at hv
    have hx : readNumS (textS S).1 = (v, (textS S).1.length, 0) := by rw [← h, ← hn, ← he]
    obtain ⟨rest, h1, h2, h3⟩ := readNum_is hx
    have : rest = [] := by
      have h4 := congrArg List.length h1
      rw [List.length_append, h2] at h4
      exact List.length_eq_zero_iff.1 (by omega)
    rw [this, List.append_nil] at h1
    rw [h1, numE_data v hv] at hd
    exact ⟨(Prod.mk.inj hd).1.symm, hv⟩
  · simp at h
theorem rowO_of {S : List UInt8} {l : List (List UInt8)} {a b : Nat} (hl : a ≤ l.length ∧ l.length ≤ b) (hb : b ≤ 100) (h : madeS (114 :: numL l.length) l = (S, 0)) : rowO S a b = some l := by
  obtain ⟨h1, h2⟩ := row_of (by omega) h
  unfold rowO
  rw [h1, h2, if_pos ⟨rfl, hl⟩]
theorem of_rowO {S : List UInt8} {l : List (List UInt8)} {a b : Nat} (h : rowO S a b = some l) : madeS (114 :: numL l.length) l = (S, 0) ∧ (∀ p ∈ l, checkS p = 0) ∧ a ≤ l.length ∧ l.length ≤ b := by
  obtain ⟨h1, h2, h3, h4, h5⟩ := rowO_ok h
  rw [h4]
  rw [← h4]
  exact ⟨by rw [h4]; exact of_row h5, h1, h2, h3⟩
theorem made_ne {front : List UInt8} {l : List (List UInt8)} (h : (madeS front l).1 ≠ []) : (madeS front l).2 = 0 := by
  unfold madeS at h ⊢
  split
  · split
    · rfl
    · rename_i h1 h2; rw [if_pos h1, if_neg h2] at h; exact absurd rfl h
  · rename_i h1; rw [if_neg h1] at h; exact absurd rfl h
theorem made_eta {front : List UInt8} {l : List (List UInt8)} (h : (madeS front l).1 ≠ []) : madeS front l = ((madeS front l).1, 0) := by
  rw [← made_ne h]
theorem txB_is {x : Tx} (h : txB x = true) : ∃ a b c : Nat, x = ((a : Int), (b : Int), (c : Int)) ∧ a ≤ 65535 ∧ b ≤ 65535 ∧ c ≤ 65535 := by
  have := of_decide_eq_true h
  obtain ⟨a, b, c⟩ := x
  simp only at this
  exact ⟨a.toNat, b.toNat, c.toNat, by simp only [Prod.mk.injEq]; omega, by omega, by omega, by omega⟩
theorem txn_back {x : Tx} {S : List UInt8} (h : txnS x = (S, 0)) : untxO S = some x ∧ txB x = true := by
  unfold txnS at h
  split at h
  · rename_i hb
    refine ⟨?_, hb⟩
    obtain ⟨a, b, c, rfl, ha, hb', hc⟩ := txB_is hb
    unfold untxO
    rw [rowO_of (l := [numE (a : Int), numE (b : Int), numE (c : Int)]) ⟨by simp, by simp⟩ (by decide) h]
    simp only [List.getD_cons_zero, List.getD_cons_succ]
    rw [numT_of a (by omega), numT_of b (by omega), numT_of c (by omega)]
    simp only
    rw [if_pos hb]
  · simp at h
theorem of_untx {x : Tx} {S : List UInt8} (h : untxO S = some x) : txnS x = (S, 0) := by
  unfold untxO at h
  split at h
  · rename_i l hl
    obtain ⟨hm, -, h1, h2⟩ := of_rowO hl
    obtain ⟨t0, t1, t2, rfl⟩ := len3' (show l.length = 3 by omega)
    simp only [List.getD_cons_zero, List.getD_cons_succ] at h
    split at h
    · rename_i a b c ha hb hc
      split at h
      · rename_i hB
        simp only [Option.some.injEq] at h
        subst h
        unfold txnS
        rw [if_pos hB]
        simp only
        rw [← (of_numT ha).1, ← (of_numT hb).1, ← (of_numT hc).1]
        exact hm
      · simp at h
    · simp at h
  · simp at h
theorem yes_back (v : Bool) : unyesO (yesS v) = some v := by
  unfold unyesO yesS
  cases v
  · rw [show (numE (if false = true then 1 else 0)) = numE ((0 : Nat) : Int) from rfl, numT_of 0 (by omega)]; rfl
  · rw [show (numE (if true = true then 1 else 0)) = numE ((1 : Nat) : Int) from rfl, numT_of 1 (by omega)]; rfl
theorem of_unyes {S : List UInt8} {v : Bool} (h : unyesO S = some v) : S = yesS v := by
  unfold unyesO at h
  split at h
  · rename_i n hn
    split at h
    · rename_i h2
      simp only [Option.some.injEq] at h
      rw [(of_numT hn).1]
      have : n = 0 ∨ n = 1 := by omega
      rcases this with rfl | rfl
      · subst h; rfl
      · subst h; rfl
    · simp at h
  · simp at h
theorem one_back {s : List UInt8} {m : Mb} (h : oneM s = some m) : madeS (114 :: numL 2) [numE m.1, m.2] = (s, 0) := by
  unfold oneM at h
  split at h
  · rename_i l hl
    obtain ⟨hm, -, h1, h2⟩ := of_rowO hl
    obtain ⟨t0, t1, rfl⟩ := len2 (show l.length = 2 by omega)
    simp only [List.getD_cons_zero, List.getD_cons_succ] at h
    cases hv : numT t0 with
    | none => rw [hv] at h; simp at h
    | some v =>
      rw [hv] at h
      have h : some ((v : Int), t1) = some m := h
      simp only [Option.some.injEq] at h
      subst h
      rw [← (of_numT hv).1]
      exact hm
  · simp at h
theorem of_one {m : Mb} {s : List UInt8} (h0 : 0 ≤ m.1) (h8 : m.1 < 8) (h : madeS (114 :: numL 2) [numE m.1, m.2] = (s, 0)) : oneM s = some m := by
  obtain ⟨k, d⟩ := m
  obtain ⟨n, rfl⟩ : ∃ n : Nat, k = n := ⟨k.toNat, by simp only at h0; omega⟩
  unfold oneM
  rw [rowO_of (l := [numE (n : Int), d]) ⟨by simp, by simp⟩ (by decide) h]
  simp only [List.getD_cons_zero, List.getD_cons_succ]
  rw [numT_of n (by simp only at h8; omega)]
  rfl
theorem unL_back : ∀ (ps : List (List UInt8)) (l : List Mb), unL ps = some l → mbRows l = some ps
  | [], l, h => by
    simp only [unL, Option.some.injEq] at h
    subst h; rfl
  | s :: r, l, h => by
    simp only [unL] at h
    split at h
    · rename_i m hm
      cases hq : unL r with
      | none => rw [hq] at h; simp at h
      | some q =>
        rw [hq] at h
        simp only [Option.map_some, Option.some.injEq] at h
        subst h
        rw [mbRows, one_back hm, unL_back r q hq]
        simp
    · simp at h
theorem of_unL : ∀ (l : List Mb) (ps : List (List UInt8)), (∀ m ∈ l, 0 ≤ m.1 ∧ m.1 < 8) → mbRows l = some ps → unL ps = some l
  | [], ps, _, h => by
    simp only [mbRows, Option.some.injEq] at h
    subst h; rfl
  | m :: l, ps, hm, h => by
    simp only [mbRows] at h
    split at h
    · rename_i h0
      cases hq : mbRows l with
      | none => rw [hq] at h; simp at h
      | some q =>
        rw [hq] at h
        simp only [Option.map_some, Option.some.injEq] at h
        subst h
        have h1 := hm m List.mem_cons_self
        rw [unL, of_one h1.1 h1.2 (s := (madeS (114 :: numL 2) [numE m.1, m.2]).1) (by rw [← h0]), of_unL l q (fun x hx => hm x (by simp [hx])) hq]
        rfl
    · simp at h
theorem unmb_back {c : Int} {S : List UInt8} {l : List Mb} (h : unmbS c S = some l) : mbrsS c l = (S, 0) ∧ mbB c l = true := by
  unfold unmbS at h
  split at h
  · rename_i ps hp
    split at h
    · rename_i l' hl
      split at h
      · rename_i hB
        simp only [Option.some.injEq] at h
        subst h
        refine ⟨?_, hB⟩
        unfold mbrsS
        rw [if_pos hB, unL_back ps l' hl]
        exact (of_rowO hp).1
      · simp at h
    · simp at h
  · simp at h
theorem of_unmb {c : Int} {S : List UInt8} {l : List Mb} (h : mbrsS c l = (S, 0)) : unmbS c S = some l := by
  unfold mbrsS at h
  split at h
  · rename_i hB
    split at h
    · rename_i r hr
      have hB' := hB
      unfold mbB at hB'
      rw [Bool.and_eq_true] at hB'
      have hlen := of_decide_eq_true hB'.2
      have hr' := (mbRows_len l r hr).1
      unfold unmbS
      rw [rowO_of (l := r) ⟨by omega, by omega⟩ (by decide) h]
      simp only
      rw [of_unL l r (fun m hm => by have := mbs_el hB'.1 m hm; omega) hr]
      simp only
      rw [if_pos hB]
    · simp at h
  · simp at h
theorem mbrs_ne {c : Int} {l : List Mb} (h : (mbrsS c l).1 ≠ []) : mbrsS c l = ((mbrsS c l).1, 0) := by
  unfold mbrsS at h ⊢
  split
  · rename_i hB
    rw [if_pos hB] at h
    split
    · rename_i r hr
      rw [hr] at h
      exact made_eta h
    · rename_i hr
      rw [hr] at h
      exact absurd rfl h
  · rename_i hB
    rw [if_neg hB] at h
    exact absurd rfl h
theorem txn_ne {x : Tx} (h : (txnS x).1 ≠ []) : txnS x = ((txnS x).1, 0) := by
  unfold txnS at h ⊢
  split
  · rename_i hB
    rw [if_pos hB] at h
    exact made_eta h
  · rename_i hB
    rw [if_neg hB] at h
    exact absurd rfl h
end Go.Proofs.Ytpcilobbohokcaa
