/-
  ballot: which ballot any text is the body of (plain); the readers, each with one result.
-/
import Derived.Test.YthnlmmkhehphiaaDoorBaBal2
import Derived.Test.YthnlmmkhehphiaaDoorBaW2
import Derived.Test.YthnlmmkhehphiaaDoorBaW1
import Derived.Test.YthnlmmkhehphiaaDoorBaRefC
set_option linter.unusedSimpArgs false
set_option linter.unusedVariables false
set_option maxRecDepth 20000
namespace Go.Proofs.YthnlmmkhehphiaaDoor
open Go Go.Wk Go.RowKit
attribute [local irreducible] go Hold
open Go.Lib
theorem num13_ok {v : Int} (h : 0 ≤ v ∧ v < 8) : (numS v).2 = 0 ∧ numT (numS v).1 = some v.toNat := by
  obtain ⟨n, rfl⟩ := Int.eq_ofNat_of_zero_le h.1
  have h1 := numE_data n (by omega)
  have h2 := numT_of n (by omega)
  unfold numS
  rw [if_neg (by omega), Int.toNat_natCast, h1]
  exact ⟨rfl, h2⟩
theorem body_back {x : Tx} {aud : Int} {mbs : List Mb} {org : Int} {S : List UInt8} (h : bodyS x aud mbs org = (S, 0)) : kindS S = 3 ∧ partsS S = bdL x aud mbs org ∧ untxO (txnS x).1 = some x ∧ numT (numS aud).1 = some aud.toNat ∧ unmbS x.1 (mbrsS x.1 mbs).1 = some mbs ∧ numT (numS org).1 = some org.toNat ∧ (0 ≤ aud ∧ 0 ≤ org) ∧ balB x aud mbs org = true := by
  have hb := body_is (x := x) (aud := aud) (mbs := mbs) (org := org) (by rw [h])
  unfold bodyS at h
  rw [if_pos hb] at h
  split at h
  · rename_i hm
    obtain ⟨hk, hp⟩ := row_of (l := bdL x aud mbs org) (by simp [bdL]) h
    obtain ⟨ht, ha, hmm, ho⟩ := bal_is hb
    have hc := parts_ok (kind_chk hk (by decide))
    rw [hp] at hc
    have ht1 : (txnS x).1 ≠ [] := fun e => absurd (hc (txnS x).1 (by simp [bdL])) (by rw [e]; decide)
    exact ⟨hk, hp, (txn_back (txn_ne ht1)).1, (num13_ok ha).2, of_unmb (Prod.ext rfl hm), (num13_ok ho).2, ⟨ha.1, ho.1⟩, hb⟩
  · simp at h
/-- What a text would be read as. -/
def rdB (S : List UInt8) : Tx × Int × List Mb × Int := ((untxO ((partsS S).getD 1 [])).getD (0, 0, 0), (((numT ((partsS S).getD 2 [])).getD 0 : Nat) : Int), (unmbS ((untxO ((partsS S).getD 1 [])).getD (0, 0, 0)).1 ((partsS S).getD 3 [])).getD [], (((numT ((partsS S).getD 4 [])).getD 0 : Nat) : Int))
def bodyQ (q : Tx × Int × List Mb × Int) : List UInt8 × Int := bodyS q.1 q.2.1 q.2.2.1 q.2.2.2
/-- Whether a text is a ballot's body. -/
def isB (S : List UInt8) : Bool := decide (kindS S = 3 ∧ (partsS S).length = 5 ∧ bodyQ (rdB S) = (S, 0))
def outB (S : List UInt8) : Tx × Int × List Mb × Int := if isB S = true then rdB S else ((0, 0, 0), 0, [], 0)
theorem rd_of {x : Tx} {aud : Int} {mbs : List Mb} {org : Int} {S : List UInt8} (h : bodyS x aud mbs org = (S, 0)) : isB S = true ∧ outB S = (x, aud, mbs, org) := by
  obtain ⟨h1, h2, h3, h4, h5, h6, ⟨h7, h8⟩, -⟩ := body_back h
  have hr : rdB S = (x, aud, mbs, org) := by
    unfold rdB
    rw [h2]
    unfold bdL
    simp only [List.getD_cons_succ, List.getD_cons_zero]
    rw [h3]
    simp only [Option.getD_some]
    rw [h4, h5, h6]
    simp only [Option.getD_some]
    rw [Int.toNat_of_nonneg h7, Int.toNat_of_nonneg h8]
  have ho : isB S = true := decide_eq_true ⟨h1, by rw [h2]; rfl, by rw [hr]; exact h⟩
  refine ⟨ho, ?_⟩
  unfold outB
  rw [if_pos ho, hr]
end Go.Proofs.YthnlmmkhehphiaaDoor
