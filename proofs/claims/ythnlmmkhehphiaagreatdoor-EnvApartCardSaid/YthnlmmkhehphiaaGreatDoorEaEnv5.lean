/-
  env: which envelope any text is the term of (plain).
-/
import Derived.Test.YthnlmmkhehphiaaGreatDoorEaEnv4
import Derived.Test.YthnlmmkhehphiaaGreatDoorEaW2
set_option linter.unusedSimpArgs false
set_option linter.unusedVariables false
set_option maxRecDepth 20000
namespace Go.Proofs.YthnlmmkhehphiaaGreatDoor
open Go Go.Wk Go.RowKit
attribute [local irreducible] go Hold
open Go.Lib
theorem num20_ok {v : Int} (h : 0 ≤ v ∧ v ≤ 2147483647) : numT (numS v).1 = some v.toNat := by
  obtain ⟨n, rfl⟩ := Int.eq_ofNat_of_zero_le h.1
  have h1 := numE_data n (by omega)
  have h2 := numT_of n (by omega)
  unfold numS
  rw [if_neg (by omega), Int.toNat_natCast, h1]
  exact h2
theorem num20_of {S : List UInt8} {v : Nat} (h : numT S = some v) : (numS (v : Int)).1 = S := by
  obtain ⟨e, e'⟩ := of_numT h
  unfold numS
  rw [if_neg (by omega), Int.toNat_natCast, numE_data v e', e]
/-- A part of a row as a number. -/
def nAt (l : List (List UInt8)) (j : Nat) : Int := (((numT (l.getD j [])).getD 0 : Nat) : Int)
/-- What a text would be read as. -/
def rdEL (l : List (List UInt8)) : Ev := ⟨nAt l 1, nAt l 2, nAt l 3, nAt l 4, nAt l 5, l.getD 6 [], l.getD 7 []⟩
def rdE (S : List UInt8) : Ev := rdEL (partsS S)
def ev0 : Ev := ⟨0, 0, 0, 0, 0, [], []⟩
/-- Whether a text is an envelope's term. -/
def isE (S : List UInt8) : Bool := decide (kindS S = 3 ∧ (partsS S).length = 8 ∧ encE (rdE S) = (S, 0))
def outE (S : List UInt8) : Ev := if isE S = true then rdE S else ev0
def numsB (l : List (List UInt8)) (j : Nat) : Bool := (List.range j).all fun i => (numT (l.getD (i + 1) [])).isSome
theorem numsB_is {l : List (List UInt8)} {j : Nat} : numsB l j = true ↔ ∀ i < j, (numT (l.getD (i + 1) [])).isSome = true := by
  unfold numsB
  rw [List.all_eq_true]
  exact ⟨fun h i hi => h i (List.mem_range.2 hi), fun h i hi => h i (List.mem_range.1 hi)⟩
theorem numsB_next {l : List (List UInt8)} {j : Nat} (h : numsB l j = true) (h' : (numT (l.getD (j + 1) [])).isSome = true) : numsB l (j + 1) = true := by
  rw [numsB_is] at h ⊢
  intro i hi
  by_cases e : i = j
  · rw [e]; exact h'
  · exact h i (by omega)
theorem numsB_no {l : List (List UInt8)} {j k : Nat} (hj : j < k) (h : (numT (l.getD (j + 1) [])).isSome = false) : numsB l k = false := by
  rw [Bool.eq_false_iff]
  intro hh
  rw [numsB_is] at hh
  rw [hh j hj] at h
  simp at h
theorem mayE_is {x : Ev} (h : mayE x = true) : mayH x = true ∧ checkS x.tag = 0 := by unfold mayE at h; simpa using h
theorem enc_may {x : Ev} {S : List UInt8} (h : encE x = (S, 0)) : mayE x = true ∧ madeS (114 :: numL (evM x).length) (evM x) = (S, 0) := by
  unfold encE at h
  split at h
  · rename_i hm; exact ⟨hm, h⟩
  · simp at h
theorem in_nn {x : Ev} (h : allN x = true) {j : Nat} (hj : j < 5) : 0 ≤ (evN x).getD j 0 ∧ (evN x).getD j 0 ≤ 2147483647 := by
  have h1 := allN_is h j hj
  unfold inN at h1
  have hj5 : j = 0 ∨ j = 1 ∨ j = 2 ∨ j = 3 ∨ j = 4 := by omega
  rcases hj5 with rfl | rfl | rfl | rfl | rfl <;> (simp only [loN, hiN, List.getD_cons_zero, List.getD_cons_succ] at h1; omega)
theorem env_back {x : Ev} {S : List UInt8} (h : encE x = (S, 0)) : kindS S = 3 ∧ partsS S = evM x ∧ mayE x = true ∧ rdE S = x ∧ numsB (partsS S) 5 = true := by
  obtain ⟨hm, hr⟩ := enc_may h
  obtain ⟨hk, hp⟩ := row_of (l := evM x) (by rw [evM_8]; omega) hr
  have ha := (mayH_is (mayE_is hm).1).1
  have hN := fun j hj => num20_ok (in_nn ha (j := j) hj)
  have hZ := fun j hj => in_nn ha (j := j) hj
  refine ⟨hk, hp, hm, ?_, ?_⟩
  · unfold rdE rdEL nAt
    rw [hp]
    obtain ⟨f, t, fe, te, no, body, tag⟩ := x
    have h0 := hN 0 (by omega)
    have h1 := hN 1 (by omega)
    have h2 := hN 2 (by omega)
    have h3 := hN 3 (by omega)
    have h4 := hN 4 (by omega)
    have z0 := hZ 0 (by omega)
    have z1 := hZ 1 (by omega)
    have z2 := hZ 2 (by omega)
    have z3 := hZ 3 (by omega)
    have z4 := hZ 4 (by omega)
    simp only [evN, List.getD_cons_zero, List.getD_cons_succ] at h0 h1 h2 h3 h4 z0 z1 z2 z3 z4
    simp only [evM, evL, evL0, evN, List.take_succ_cons, List.take_nil, List.take_zero, List.map_cons, List.map_nil, List.cons_append, List.nil_append, List.getD_cons_zero, List.getD_cons_succ, h0, h1, h2, h3, h4, Option.getD_some, Int.toNat_of_nonneg z0.1, Int.toNat_of_nonneg z1.1, Int.toNat_of_nonneg z2.1, Int.toNat_of_nonneg z3.1, Int.toNat_of_nonneg z4.1]
  · rw [numsB_is, hp]
    intro j hj
    have hj5 : j = 0 ∨ j = 1 ∨ j = 2 ∨ j = 3 ∨ j = 4 := by omega
    have h1 := hN j hj
    have : (evM x).getD (j + 1) [] = (numS ((evN x).getD j 0)).1 := by rcases hj5 with rfl | rfl | rfl | rfl | rfl <;> rfl
    rw [this, h1]
    rfl
theorem is_of {x : Ev} {S : List UInt8} (h : encE x = (S, 0)) : isE S = true ∧ outE S = x := by
  obtain ⟨h1, h2, -, h3, -⟩ := env_back h
  have : isE S = true := decide_eq_true ⟨h1, by rw [h2]; rfl, by rw [h3]; exact h⟩
  exact ⟨this, by unfold outE; rw [if_pos this, h3]⟩
theorem len8 {l : List (List UInt8)} (h : l.length = 8) : ∃ a b c d e f g i, l = [a, b, c, d, e, f, g, i] := by
  obtain _ | ⟨a, _ | ⟨b, _ | ⟨c, _ | ⟨d, _ | ⟨e, _ | ⟨f, _ | ⟨g, _ | ⟨i, _ | ⟨z, r⟩⟩⟩⟩⟩⟩⟩⟩⟩ := l
  all_goals first | exact ⟨_, _, _, _, _, _, _, _, rfl⟩ | (exfalso; simp only [List.length_cons, List.length_nil] at h; omega)
/-- Numbers that are read make the parts again. -/
theorem evM_rd {l : List (List UInt8)} (hl : l.length = 8) (h0 : l.getD 0 [] = (dataS EW).1) (hn : numsB l 5 = true) : evM (rdEL l) = l := by
  obtain ⟨a, b, c, d, e, f, g, i, rfl⟩ := len8 hl
  rw [numsB_is] at hn
  have h1 := hn 0 (by omega)
  have h2 := hn 1 (by omega)
  have h3 := hn 2 (by omega)
  have h4 := hn 3 (by omega)
  have h5 := hn 4 (by omega)
  simp only [List.getD_cons_zero, List.getD_cons_succ, Option.isSome_iff_exists] at h0 h1 h2 h3 h4 h5
  obtain ⟨v1, h1⟩ := h1
  obtain ⟨v2, h2⟩ := h2
  obtain ⟨v3, h3⟩ := h3
  obtain ⟨v4, h4⟩ := h4
  obtain ⟨v5, h5⟩ := h5
  unfold rdEL nAt
  simp only [evM, evL, evL0, evN, List.take_succ_cons, List.take_nil, List.take_zero, List.map_cons, List.map_nil, List.cons_append, List.nil_append, List.getD_cons_zero, List.getD_cons_succ, h1, h2, h3, h4, h5, Option.getD_some, num20_of h1, num20_of h2, num20_of h3, num20_of h4, num20_of h5, h0]
theorem isE_is {S : List UInt8} (hk : kindS S = 3) (hl : (partsS S).length = 8) : isE S = (decide ((partsS S).getD 0 [] = (dataS EW).1) && (numsB (partsS S) 5 && mayE (rdE S))) := by
  rw [Bool.eq_iff_iff]
  constructor
  · intro h
    obtain ⟨-, -, h⟩ := of_decide_eq_true h
    obtain ⟨-, h2, h3, -, h5⟩ := env_back h
    rw [h5, h3, Bool.and_true, Bool.and_true, h2]
    exact decide_eq_true rfl
  · intro h
    simp only [Bool.and_eq_true, decide_eq_true_eq] at h
    obtain ⟨h0, hn, hm⟩ := h
    refine decide_eq_true ⟨hk, hl, ?_⟩
    unfold encE
    rw [if_pos hm]
    have : evM (rdE S) = partsS S := evM_rd hl h0 hn
    rw [this]
    exact of_row hk
theorem isE_kind {S : List UInt8} (h : ¬ (kindS S = 3 ∧ (partsS S).length = 8)) : isE S = false := decide_eq_false fun g => h ⟨g.1, g.2.1⟩
end Go.Proofs.YthnlmmkhehphiaaGreatDoor
