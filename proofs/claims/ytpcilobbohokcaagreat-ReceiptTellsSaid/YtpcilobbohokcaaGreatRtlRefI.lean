/-
  The reference's Encode of a message (walk).
-/
import Derived.Test.YtpcilobbohokcaaGreatRtlW6
import Derived.Test.YtpcilobbohokcaaGreatRtlW4
import Derived.Test.YtpcilobbohokcaaGreatRtlMpr
import Derived.Test.YtpcilobbohokcaaGreatRtlRefC
import Derived.Test.YtpcilobbohokcaaGreatRtlRefD
set_option linter.unusedSimpArgs false
set_option linter.unusedVariables false
set_option maxRecDepth 20000
namespace Go.Proofs.YtpcilobbohokcaaGreat
open Go Go.Wk Go.RowKit
attribute [local irreducible] go Hold
open Go.Lib
theorem numE_hd {v : Int} (h1 : 0 ≤ v) (h2 : v ≤ 2147483647) : Hd (numE v) 0 ∧ (numE v).length ≤ 20 ∧ numE v ≠ [] := by
  obtain ⟨n, rfl⟩ := Int.eq_ofNat_of_zero_le h1
  have hd := numE_data n (by omega)
  have hl : (numL n).length ≤ 9 := numL_len (by omega)
  have hl2 : (numL (numL n).length).length ≤ 9 := numL_len (by omega)
  unfold dataS at hd
  rw [if_neg (by omega)] at hd
  simp only [Prod.mk.injEq, and_true] at hd
  rw [← hd]
  refine ⟨.inl ⟨rfl, numL n, by omega, rfl⟩, ?_, by simp⟩
  simp only [List.length_cons, List.length_append]
  omega
theorem txn_ok {x : Tx} (h : txB x = true) : (txnS x).2 = 0 ∧ (txnS x).1 ≠ [] := by
  obtain ⟨a, b, c, rfl, ha, hb, hc⟩ := txB_is h
  unfold txnS
  rw [if_pos h]
  obtain ⟨a1, a2, -⟩ := numE_hd (v := a) (by omega) (by omega)
  obtain ⟨b1, b2, -⟩ := numE_hd (v := b) (by omega) (by omega)
  obtain ⟨c1, c2, -⟩ := numE_hd (v := c) (by omega) (by omega)
  have hn : (114 :: numL 3).length ≤ 10 := by have := numL_len (v := 3) (by omega); simp only [List.length_cons]; omega
  have tr : Tr ((114 :: numL 3) ++ encF (.cons (numE a) .nil (.cons (numE b) .nil (.cons (numE c) .nil .nil)))) (114 :: numL 3) (.cons (numE a) .nil (.cons (numE b) .nil (.cons (numE c) .nil .nil))) := by
    refine ⟨rfl, .inr (.inr (.inl ⟨by simp [cntF], rfl⟩)), ⟨a1, trivial, b1, trivial, c1, trivial, trivial⟩, by simp [hgtF], ?_⟩
    simp only [encF, List.length_append, List.length_nil]
    omega
  have hm := tr.made
  simp only [rootsF, encF, List.append_nil] at hm
  simp only
  rw [hm]
  exact ⟨rfl, by simp⟩
end Go.Proofs.YtpcilobbohokcaaGreat
