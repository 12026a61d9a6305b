/-
  wire.untxn (walk). wire: what the terms of rows, numbers, transactions and members say (plain). wire: members and transactions that come in. chirographref12.SameMembers (walk). chirographlaw12.Long (walk).
-/
import Derived.Test.YthnlmmkhehphiaaDoorEbW1
import Derived.Test.YthnlmmkhehphiaaDoorEbTrp
import Derived.Test.YthnlmmkhehphiaaDoorEbRd
set_option linter.unusedSimpArgs false
set_option linter.unusedVariables false
set_option maxRecDepth 20000
namespace Go.Proofs.YthnlmmkhehphiaaDoor
open Go Go.Wk Go.RowKit
attribute [local irreducible] go Hold
open Go.Lib
end Go.Proofs.YthnlmmkhehphiaaDoor
set_option linter.unusedSimpArgs false
set_option linter.unusedVariables false
set_option maxRecDepth 20000
namespace Go.Proofs.YthnlmmkhehphiaaDoor
open Go Go.Wk Go.RowKit
attribute [local irreducible] go Hold
open Go.Lib
theorem made_len (f : List UInt8) (l : List (List UInt8)) : (madeS f l).1.length ≤ 16384 := by
  unfold madeS
  split
  · split
    · rename_i h; exact (check0 h).2.2.1
    · simp
  · simp
theorem row_of {l : List (List UInt8)} (hl : l.length ≤ 9223372036854775807) {a : List UInt8} (h : madeS (114 :: numL l.length) l = (a, 0)) : kindS a = 3 ∧ partsS a = l := by
  obtain ⟨K, tr, e⟩ := rowMade_is hl h
  refine ⟨?_, by rw [tr.parts, e]⟩
  unfold kindS; rw [if_pos tr.ok, tr.1]; rfl
theorem of_row {S : List UInt8} (h : kindS S = 3) : madeS (114 :: numL (partsS S).length) (partsS S) = (S, 0) := by
  rcases opens_plain (kind_chk h (by decide)) with h1 | h1 | h1 | h1 | h1 | h1
  · have := h1.1; omega
  · have := h1.1; omega
  · exact h1.2.2
  · have := h1.1; omega
  · have := h1.1; omega
  · have := h1.1; omega
theorem data_of {s t : List UInt8} (h : dataS s = (t, 0)) : kindS t = 1 ∧ textS t = (s, true) := by
  unfold dataS at h
  split at h
  · simp at h
  · rename_i hs
    simp only [Prod.mk.injEq, and_true] at h
    subst h
    have hn : (numL s.length).length ≤ 9 := numL_len (by omega)
    have tr : Tr (100 :: (numL s.length ++ s)) (100 :: (numL s.length ++ s)) .nil := by
      refine ⟨by simp [encF], .inl ⟨rfl, s, by omega, rfl⟩, trivial, by simp [hgtF], ?_⟩
      simp only [List.length_cons, List.length_append]
      omega
    have hk : kindS (100 :: (numL s.length ++ s)) = 1 := by unfold kindS; rw [if_pos tr.ok]; rfl
    refine ⟨hk, ?_⟩
    unfold textS
    rw [if_pos (.inl hk), List.drop_succ_cons, List.drop_zero]
    have := readText_of s 1024 (by omega) (by omega) []
    rw [List.append_nil] at this
    rw [this]
theorem of_data {t : List UInt8} (h : kindS t = 1) : dataS (textS t).1 = (t, 0) := by
  rcases opens_plain (kind_chk h (by decide)) with h1 | h1 | h1 | h1 | h1 | h1
  · obtain ⟨_, _, s, h2, h3⟩ := h1
    rw [h2]; exact h3
  · have := h1.1; omega
  · have := h1.1; omega
  · have := h1.1; omega
  · have := h1.1; omega
  · have := h1.1; omega
theorem numE_data (v : Nat) (h : v ≤ 2147483647) : dataS (numL v) = (numE (v : Int), 0) := by
  have hn : numS (v : Int) = dataS (numL v) := by unfold numS; rw [if_neg (by omega), Int.toNat_natCast]
  have hl : (numL v).length ≤ 9 := numL_len (by omega)
  have hd : (dataS (numL v)).2 = 0 := by unfold dataS; rw [if_neg (by omega)]
  unfold numE
  rw [hn, ← hd]
theorem numT_of (v : Nat) (h : v ≤ 2147483647) : numT (numE (v : Int)) = some v := by
  obtain ⟨hk, ht⟩ := data_of (numE_data v h)
  have hr := readNum_of v (by omega) []
  rw [List.append_nil] at hr
  unfold numT
  rw [ht, hk]
  simp only
  rw [hr, if_pos ⟨trivial, rfl, rfl, h⟩]
theorem of_numT {S : List UInt8} {v : Nat} (h : numT S = some v) : S = numE (v : Int) ∧ v ≤ 2147483647 := by
  unfold numT at h
  split at h
  · rename_i hc
    obtain ⟨hk, he, hn, hv⟩ := hc
    simp only [Option.some.injEq] at h
    have hd := of_data hk
    rw [h] at hv
    have hx : readNumS (textS S).1 = (v, (textS S).1.length, 0) := by rw [← h, ← hn, ← he]
    obtain ⟨rest, h1, h2, h3⟩ := readNum_is hx
    have : rest = [] := by
      have h4 := congrArg List.length h1
      rw [List.length_append, h2] at h4
      exact List.length_eq_zero_iff.1 (by omega)
    rw [this, List.append_nil] at h1
    rw [h1, numE_data v hv] at hd
    exact ⟨(Prod.mk.inj hd).1.symm, hv⟩
  · simp at h
end Go.Proofs.YthnlmmkhehphiaaDoor
set_option linter.unusedSimpArgs false
set_option linter.unusedVariables false
set_option maxRecDepth 20000
namespace Go.Proofs.YthnlmmkhehphiaaDoor
open Go Go.Wk Go.RowKit
attribute [local irreducible] go Hold
open Go.Lib
instance : Inhabited Mb := ⟨(0, [])⟩
def I64 (v : Int) : Prop := -9223372036854775808 ≤ v ∧ v ≤ 9223372036854775807
theorem byL (a : ByteArray) : (⟨a.data.toList.toArray⟩ : ByteArray) = a := by cases a; rw [Array.toArray_toList]
section
variable {H : Type} {enc : TypeId × Value → H} {w : World} {base : Nat} {spare : Nat → Bool} {held : Bool}
end
end Go.Proofs.YthnlmmkhehphiaaDoor
set_option linter.unusedSimpArgs false
set_option linter.unusedVariables false
set_option maxRecDepth 20000
namespace Go.Proofs.YthnlmmkhehphiaaDoor
open Go Go.Wk Go.RowKit
attribute [local irreducible] go Hold
open Go.Lib
end Go.Proofs.YthnlmmkhehphiaaDoor
set_option linter.unusedSimpArgs false
set_option linter.unusedVariables false
set_option maxRecDepth 20000
namespace Go.Proofs.YthnlmmkhehphiaaDoor
open Go Go.Wk Go.RowKit
attribute [local irreducible] go Hold
open Go.Lib
end Go.Proofs.YthnlmmkhehphiaaDoor
