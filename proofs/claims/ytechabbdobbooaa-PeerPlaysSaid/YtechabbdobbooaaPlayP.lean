/-
  The law PeerPlays (plain): a row of all that was taken, and a window.
-/
import Derived.Test.YtechabbdobbooaaPeer4
set_option linter.unusedSimpArgs false
set_option linter.unusedVariables false
namespace Go.Proofs.Ytechabbdobbooaa
open Go Go.Wk Go.RowKit
attribute [local irreducible] go Hold
def topL (xs : List Int) : Int := xs.foldl max 0
theorem topL_snoc (xs : List Int) (n : Int) : topL (xs ++ [n]) = max (topL xs) n := by simp [topL]
/-- The window says what the row says. -/
structure RRel (t : Int) (v : Nat) (xs : List Int) : Prop where
  rel : WRel t v xs
  top : topL xs = t
  low : ∀ k : Nat, t - k < 1 → v.testBit k = false
theorem RRel.nil : RRel 0 0 [] := ⟨WRel.nil, rfl, fun k _ => by simp⟩
theorem RRel.take {t : Int} {v : Nat} {xs : List Int} (h : RRel t v xs) {n : Int} (hm : mayC t v n = 0) : RRel (max t n) (takeV t v n) (xs ++ [n]) := by
  obtain ⟨h1, h2, h3⟩ := mayC_zero hm
  have h4 := h.rel.take hm
  refine ⟨h4, by rw [topL_snoc, h.top], fun k hk => ?_⟩
  by_cases hk64 : k < 64
  · rw [takeV_bit k hk64]
    split
    · rename_i ht
      rw [Bool.or_eq_false_iff]
      refine ⟨?_, by simp; omega⟩
      by_cases hk2 : (n - t).toNat ≤ k
      · rw [h.low (k - (n - t).toNat) (by omega)]; simp
      · simp [hk2]
    · rename_i ht
      rw [h.low k (by omega)]; simp; omega
  · have : takeV t v n < 2 ^ k := Nat.lt_of_lt_of_le h4.v1 (Nat.le_trans (by decide) (Nat.pow_le_pow_right (n := 2) (by omega) (show 64 ≤ k by omega)))
    exact Nat.testBit_lt_two_pow this
theorem RRel.tk {s : Int × Nat} {xs : List Int} (h : RRel s.1 s.2 xs) (n : Int) : RRel (tk s n).1 (tk s n).2 (if mayC s.1 s.2 n = 0 then xs ++ [n] else xs) := by
  unfold Go.Proofs.Ytechabbdobbooaa.tk
  split
  · rename_i hm; exact h.take hm
  · exact h
def mayR (xs : List Int) (n : Int) : Int := if n < 1 then 2 else if 65535 < n then 2 else if 64 ≤ topL xs - n then 180 else if n ∈ xs then 9 else 0
theorem RRel.may {t : Int} {v : Nat} {xs : List Int} (h : RRel t v xs) (n : Int) : mayR xs n = mayC t v n := by
  unfold mayR mayC
  rw [h.top]
  by_cases a : n < 1
  · rw [if_pos a, if_pos a]
  rw [if_neg a, if_neg a]
  by_cases b : 65535 < n
  · rw [if_pos b, if_pos b]
  rw [if_neg b, if_neg b]
  by_cases c : 64 ≤ t - n
  · rw [if_pos c, if_pos c]
  rw [if_neg c, if_neg c]
  by_cases d : n ≤ t
  · rw [if_pos d]
    have := h.rel.bit n (by omega) d (by omega)
    by_cases e : n ∈ xs
    · rw [if_pos e, if_pos (this.2 e)]
    · rw [if_neg e, if_neg (fun x => e (this.1 x))]
  · rw [if_neg d, if_neg (fun e => d (h.rel.top n e).2)]
/-- Of c numbers from n on those that were taken. -/
def listF (xs : List Int) : Nat → Int → List Int
  | 0, _ => []
  | c + 1, n => if n ∈ xs then n :: listF xs c (n + 1) else listF xs c (n + 1)
def listR (xs : List Int) : List Int := listF xs (topL xs + 1 - max (topL xs - 63) 1).toNat (max (topL xs - 63) 1)
theorem listF_taken {t : Int} {v : Nat} {xs : List Int} (h : RRel t v xs) : ∀ c : Nat, c ≤ 64 → (c : Int) ≤ t → takenL t v c = listF xs c (t + 1 - c)
  | 0, _, _ => rfl
  | c + 1, h1, h2 => by
    have ih := listF_taken h c (by omega) (by omega)
    have hb := h.rel.bit (t - c) (by omega) (by omega) (by omega)
    have e : (t - (t - (c : Int))).toNat = c := by omega
    rw [e] at hb
    have e2 : t + 1 - ((c + 1 : Nat) : Int) = t - c := by omega
    have e3 : t - (c : Int) + 1 = t + 1 - c := by omega
    simp only [takenL, listF, e2, e3]
    by_cases a : t - (c : Int) ∈ xs
    · rw [if_pos a, if_pos (hb.2 a), ih]
    · rw [if_neg a, if_neg (fun x => a (hb.1 x)), ih]
theorem taken_low {t : Int} {v : Nat} {xs : List Int} (h : RRel t v xs) : ∀ c d : Nat, (d : Int) = t → takenL t v (d + c) = takenL t v d
  | 0, d, _ => rfl
  | c + 1, d, hd => by
    have ih := taken_low h c d hd
    rw [← Nat.add_assoc]
    simp only [takenL]
    rw [h.low (d + c) (by omega), ih]; simp
theorem RRel.list {t : Int} {v : Nat} {xs : List Int} (h : RRel t v xs) : takenL t v 64 = listR xs := by
  have t0 := h.rel.t0
  unfold listR
  rw [h.top]
  by_cases a : 64 ≤ t
  · rw [listF_taken h 64 (by omega) (by omega)]
    have e : (t + 1 - max (t - 63) 1).toNat = 64 := by omega
    have e2 : max (t - 63) 1 = t + 1 - (64 : Nat) := by omega
    rw [e, e2]
  · obtain ⟨d, rfl⟩ := Int.eq_ofNat_of_zero_le t0
    have := taken_low h (64 - d) d rfl
    rw [show d + (64 - d) = 64 from by omega] at this
    rw [this, listF_taken h d (by omega) (by omega)]
    have e : ((d : Int) + 1 - max ((d : Int) - 63) 1).toNat = d := by omega
    have e2 : max ((d : Int) - 63) 1 = (d : Int) + 1 - d := by omega
    rw [e, e2]
theorem listF_len (xs : List Int) : ∀ c n, (listF xs c n).length ≤ c
  | 0, _ => by simp [listF]
  | c + 1, n => by
    have := listF_len xs c (n + 1)
    simp only [listF]; split
    · simp; omega
    · omega
theorem listR_len {t : Int} {v : Nat} {xs : List Int} (h : RRel t v xs) : (listR xs).length ≤ 64 := by
  have := listF_len xs (topL xs + 1 - max (topL xs - 63) 1).toNat (max (topL xs - 63) 1)
  unfold listR; omega
end Go.Proofs.Ytechabbdobbooaa
