/-
  ballot: which ballot any text is the body of (plain); the readers, each with one result.
-/
import Derived.Test.YthnlmmkhehphiaaGreatDoorEaBal2
import Derived.Test.YthnlmmkhehphiaaGreatDoorEaW2
import Derived.Test.YthnlmmkhehphiaaGreatDoorEaW1
import Derived.Test.YthnlmmkhehphiaaGreatDoorEaRefC
set_option linter.unusedSimpArgs false
set_option linter.unusedVariables false
set_option maxRecDepth 20000
namespace Go.Proofs.YthnlmmkhehphiaaGreatDoor
open Go Go.Wk Go.RowKit
attribute [local irreducible] go Hold
open Go.Lib
theorem num13_ok {v : Int} (h : 0 ≤ v ∧ v < 8) : (numS v).2 = 0 ∧ numT (numS v).1 = some v.toNat := by
  obtain ⟨n, rfl⟩ := Int.eq_ofNat_of_zero_le h.1
  have h1 := numE_data n (by omega)
  have h2 := numT_of n (by omega)
  unfold numS
  rw [if_neg (by omega), Int.toNat_natCast, h1]
  exact ⟨rfl, h2⟩
theorem body_back {x : Tx} {aud : Int} {mbs : List Mb} {org : Int} {S : List UInt8} (h : bodyS x aud mbs org = (S, 0)) : kindS S = 3 ∧ partsS S = bdL x aud mbs org ∧ untxO (txnS x).1 = some x ∧ numT (numS aud).1 = some aud.toNat ∧ unmbS x.1 (mbrsS x.1 mbs).1 = some mbs ∧ numT (numS org).1 = some org.toNat ∧ (0 ≤ aud ∧ 0 ≤ org) ∧ balB x aud mbs org = true := by
  have hb := body_is (x := x) (aud := aud) (mbs := mbs) (org := org) (by rw [h])
  unfold bodyS at h
  rw [if_pos hb] at h
  split at h
  · rename_i hm
    obtain ⟨hk, hp⟩ := row_of (l := bdL x aud mbs org) (by simp [bdL]) h
    obtain ⟨ht, ha, hmm, ho⟩ := bal_is hb
    have hc := parts_ok (kind_chk hk (by decide))
    rw [hp] at hc
    have ht1 : (txnS x).1 ≠ [] := fun e => absurd (hc (txnS x).1 (by simp [bdL])) (by rw [e]; decide)
    exact ⟨hk, hp, (txn_back (txn_ne ht1)).1, (num13_ok ha).2, of_unmb (Prod.ext rfl hm), (num13_ok ho).2, ⟨ha.1, ho.1⟩, hb⟩
  · simp at h
theorem cell_lt13 {w : World} {b o : Nat} {v : Value} (h : w.cell? ⟨b, o, none⟩ = some v) : b < w.heap.size := by
  by_cases hb : b < w.heap.size
  · exact hb
  · have : w.heap[b]? = none := Array.getElem?_eq_none (by omega)
    simp [World.cell?, this] at h
theorem nuV_u13 (o : Option Nat) : nuV o = .tuple #[.int .i64 ((o.getD 0 : Nat) : Int), .bool o.isSome] := by cases o <;> rfl
end Go.Proofs.YthnlmmkhehphiaaGreatDoor
