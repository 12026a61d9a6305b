/-
  Heads of terms: which there are (plain).
-/
import Derived.Test.YticoollhaachfaaFrn1
set_option linter.unusedSimpArgs false
set_option linter.unusedVariables false
namespace Go.Proofs.Yticoollhaachfaa
open Go Go.Wk Go.RowKit
attribute [local irreducible] go Hold
theorem valL_digL (v : Nat) : valL (digL v) = v := by
  induction v using Nat.strongRecOn with
  | _ v ih =>
    by_cases h : v = 0
    · subst h; rw [digL_zero]; rfl
    · rw [digL_step h, valL_snoc, ih (v / 256) (by omega), UInt8.toNat_ofNat']
      omega
theorem readNum_of (v : Nat) (hv : v < 18446744073709551616) (rest : List UInt8) : readNumS (numL v ++ rest) = (v, (numL v).length, 0) := by
  unfold numL
  by_cases h : v < 248
  · rw [if_pos h]
    simp only [List.cons_append, List.nil_append, readNumS, List.length_cons, List.length_nil]
    rw [if_pos (by rw [UInt8.toNat_ofNat']; omega), UInt8.toNat_ofNat', Nat.mod_eq_of_lt (by omega)]
  · rw [if_neg h]
    have h8 := nd8 hv
    have hc : (UInt8.ofNat (247 + nd v)).toNat = 247 + nd v := by rw [UInt8.toNat_ofNat']; omega
    have h1 := nd1 (v := v) (by omega)
    have hl := digL_len v
    simp only [List.cons_append, readNumS]
    obtain ⟨x, r, hx, hx0⟩ := digL_head v (by omega)
    have ht : (digL v ++ rest).take ((UInt8.ofNat (247 + nd v)).toNat - 247) = digL v := by
      rw [hc, show 247 + nd v - 247 = (digL v).length by omega, List.take_left']; rfl
    have hh : (digL v ++ rest).headD 0 ≠ 0 := by rw [hx]; simpa using hx0
    rw [if_neg (by omega), if_neg (by rw [List.length_append]; omega), ht, valL_digL, if_neg (by rintro (e | e); exact hh e; omega)]
    simp only [List.length_cons, hc, hl]
    rw [show 247 + nd v - 247 = nd v from by omega]
theorem readNum_is {s : List UInt8} {v n : Nat} (h : readNumS s = (v, n, 0)) : ∃ rest, s = numL v ++ rest ∧ n = (numL v).length ∧ v < 18446744073709551616 := by
  have hb := readNumS_len h
  cases s with
  | nil => simp [readNumS] at h
  | cons c r =>
    have hc := c.toNat_lt
    simp only [readNumS] at h
    split at h
    · rename_i h1
      simp only [Prod.mk.injEq, and_true] at h
      obtain ⟨rfl, rfl⟩ := h
      refine ⟨r, ?_, ?_, by omega⟩
      · unfold numL; rw [if_pos h1]; simp
      · unfold numL; rw [if_pos h1]; rfl
    · rename_i h1
      split at h
      · simp at h
      · rename_i h2
        split at h
        · simp at h
        · rename_i h3
          simp only [Prod.mk.injEq, and_true] at h
          obtain ⟨rfl, rfl⟩ := h
          have hlt : (r.take (c.toNat - 247)).length = c.toNat - 247 := by rw [List.length_take]; omega
          have hne : r.take (c.toNat - 247) ≠ [] := by intro e; rw [e] at hlt; simp at hlt; omega
          have hd : (r.take (c.toNat - 247)).headD 0 = r.headD 0 := by
            cases r with
            | nil => simp
            | cons a r => cases hk : c.toNat - 247 with
              | zero => omega
              | succ k => simp
          have := (readNum_num (c := c) (d := r.take (c.toNat - 247)) (by omega) hne).2 (by rw [hd]; exact h3)
          refine ⟨r.drop (c.toNat - 247), by rw [this]; simp, by rw [this]; simp [hlt], hb.2.2⟩
theorem readText_of (t : List UInt8) (m : Nat) (h : t.length ≤ m) (hm : m ≤ 2000) (rest : List UInt8) : readTextS (numL t.length ++ t ++ rest) m = (t, (numL t.length ++ t).length, 0) := by
  unfold readTextS
  rw [List.append_assoc, readNum_of t.length (by omega)]
  simp only [ne_eq, not_true_eq_false, if_false]
  rw [if_neg (by omega), if_neg (by simp), List.drop_left, List.take_left', List.length_append]
  rfl
theorem readText_is {s : List UInt8} {m : Nat} {t : List UInt8} {n : Nat} (h : readTextS s m = (t, n, 0)) : ∃ rest, s = numL t.length ++ t ++ rest ∧ n = (numL t.length ++ t).length ∧ t.length ≤ m := by
  unfold readTextS at h
  generalize hr : readNumS s = x at h
  obtain ⟨v, k, e'⟩ := x
  simp only at h
  split at h
  · rename_i he
    simp only [Prod.mk.injEq] at h; exact absurd h.2.2 he
  · rename_i he
    have he : e' = 0 := Decidable.not_not.1 he
    subst he
    split at h
    · simp at h
    · rename_i h2
      split at h
      · simp at h
      · rename_i h3
        simp only [Prod.mk.injEq, and_true] at h
        obtain ⟨h4, h5⟩ := h
        obtain ⟨rest, rfl, rfl, hv⟩ := readNum_is hr
        rw [List.drop_left] at h4
        have hl : t.length = v := by
          rw [← h4, List.length_take]; simp at h3; omega
        subst hl
        refine ⟨rest.drop t.length, ?_, by rw [← h5, List.length_append], by omega⟩
        rw [List.append_assoc]
        congr 1
        exact ((congrArg (· ++ rest.drop t.length) h4).symm.trans (List.take_append_drop _ _)).symm
/-- A head of a term, with so many parts behind it. -/
def Hd (h : List UInt8) (k : Nat) : Prop :=
  (k = 0 ∧ ∃ t, t.length ≤ 1024 ∧ h = 100 :: (numL t.length ++ t)) ∨ (k = 0 ∧ ∃ t, t.length ≤ 32 ∧ nameS t = true ∧ h = 97 :: (numL t.length ++ t)) ∨
  (k ≤ 32 ∧ h = 114 :: numL k) ∨ (k = 1 ∧ h = [104]) ∨ (k = 2 ∧ h = [109]) ∨ (k = 3 ∧ h = [115])
theorem Hd.pos {h : List UInt8} {k : Nat} (hh : Hd h k) : 1 ≤ h.length := by
  rcases hh with ⟨_, t, _, rfl⟩ | ⟨_, t, _, _, rfl⟩ | ⟨_, rfl⟩ | ⟨_, rfl⟩ | ⟨_, rfl⟩ | ⟨_, rfl⟩ <;> simp
theorem front_of {h : List UInt8} {k : Nat} (hh : Hd h k) (rest : List UInt8) : frontS (h ++ rest) = (h.length, k, 0) := by
  rcases hh with ⟨rfl, t, ht, rfl⟩ | ⟨rfl, t, ht, hn, rfl⟩ | ⟨hk, rfl⟩ | ⟨rfl, rfl⟩ | ⟨rfl, rfl⟩ | ⟨rfl, rfl⟩
  · simp only [List.cons_append, frontS]
    rw [if_pos (by decide), readText_of t 1024 ht (by omega) rest]
    simp; omega
  · simp only [List.cons_append, frontS]
    rw [if_neg (by decide), if_pos (by decide), readText_of t 32 ht (by omega) rest]
    simp [hn]; omega
  · simp only [List.cons_append, frontS]
    rw [if_neg (by decide), if_neg (by decide), if_pos (by decide), readNum_of k (by omega) rest]
    rw [if_neg (by simp; omega)]
    simp; omega
  · rfl
  · rfl
  · rfl
theorem front_is {s : List UInt8} {n k : Nat} (h : frontS s = (n, k, 0)) : ∃ hd rest, s = hd ++ rest ∧ n = hd.length ∧ Hd hd k := by
  cases s with
  | nil => simp [frontS] at h
  | cons c r =>
    simp only [frontS] at h
    have hcc : ∀ x : UInt8, c.toNat = x.toNat → c = x := fun x hx => UInt8.toNat_inj.1 hx
    split at h
    · rename_i h1
      have := hcc 100 h1
      subst this
      generalize hx : readTextS r 1024 = x at h
      obtain ⟨t, m, e⟩ := x
      simp only [Prod.mk.injEq] at h
      obtain ⟨rfl, rfl, rfl⟩ := h
      obtain ⟨rest, rfl, rfl, ht⟩ := readText_is hx
      exact ⟨100 :: (numL t.length ++ t), rest, by simp, by simp; omega, .inl ⟨rfl, t, ht, rfl⟩⟩
    · split at h
      · rename_i h1
        have := hcc 97 h1
        subst this
        generalize hx : readTextS r 32 = x at h
        obtain ⟨t, m, e⟩ := x
        simp only at h
        split at h
        · simp at h
        · rename_i h2
          simp only [Prod.mk.injEq] at h
          obtain ⟨rfl, rfl, rfl⟩ := h
          obtain ⟨rest, rfl, rfl, ht⟩ := readText_is hx
          refine ⟨97 :: (numL t.length ++ t), rest, by simp, by simp; omega, .inr (.inl ⟨rfl, t, ht, ?_, rfl⟩)⟩
          cases hn : nameS t with
          | true => rfl
          | false => exact absurd ⟨rfl, hn⟩ h2
      · split at h
        · rename_i h1
          have := hcc 114 h1
          subst this
          generalize hx : readNumS r = x at h
          obtain ⟨v, m, e⟩ := x
          simp only at h
          split at h
          · simp at h
          · rename_i h2
            simp only [Prod.mk.injEq] at h
            obtain ⟨rfl, rfl, rfl⟩ := h
            obtain ⟨rest, rfl, rfl, hv⟩ := readNum_is hx
            exact ⟨114 :: numL v, rest, by simp, by simp; omega, .inr (.inr (.inl ⟨Nat.le_of_not_lt fun hh => h2 ⟨rfl, hh⟩, rfl⟩))⟩
        · split at h
          · rename_i h1
            have := hcc 104 h1
            subst this
            simp only [Prod.mk.injEq] at h
            exact ⟨[104], r, rfl, by rw [← h.1]; rfl, .inr (.inr (.inr (.inl ⟨h.2.1.symm, rfl⟩)))⟩
          · split at h
            · rename_i h1
              have := hcc 109 h1
              subst this
              simp only [Prod.mk.injEq] at h
              exact ⟨[109], r, rfl, by rw [← h.1]; rfl, .inr (.inr (.inr (.inr (.inl ⟨h.2.1.symm, rfl⟩))))⟩
            · split at h
              · rename_i h1
                have := hcc 115 h1
                subst this
                simp only [Prod.mk.injEq] at h
                exact ⟨[115], r, rfl, by rw [← h.1]; rfl, .inr (.inr (.inr (.inr (.inr ⟨h.2.1.symm, rfl⟩))))⟩
              · simp at h
/-- What stands ahead decides which head it is. -/
theorem Hd.eq {h h' x y : List UInt8} {k k' : Nat} (hh : Hd h k) (hh' : Hd h' k') (e : h ++ x = h' ++ y) : h = h' ∧ x = y ∧ k = k' := by
  have h1 := front_of hh x
  have h2 := front_of hh' y
  rw [e, h2] at h1
  simp only [Prod.mk.injEq, and_true] at h1
  have := List.append_inj e (by omega)
  exact ⟨this.1, this.2, h1.2.symm⟩
end Go.Proofs.Yticoollhaachfaa
