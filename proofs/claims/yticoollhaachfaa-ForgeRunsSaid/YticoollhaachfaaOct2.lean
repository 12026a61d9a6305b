/-
  Numbers and texts that bytes begin with (plain).
-/
import Derived.Test.YticoollhaachfaaOct1
set_option linter.unusedSimpArgs false
set_option linter.unusedVariables false
namespace Go.Proofs.Yticoollhaachfaa
open Go Go.Wk Go.RowKit
attribute [local irreducible] go Hold
def valL (d : List UInt8) : Nat := d.foldl (fun a b => a * 256 + b.toNat) 0
theorem valL_snoc (d : List UInt8) (b : UInt8) : valL (d ++ [b]) = valL d * 256 + b.toNat := by simp [valL]
theorem snoc_ind {α : Type} {p : List α → Prop} (h0 : p []) (h1 : ∀ l a, p l → p (l ++ [a])) : ∀ l, p l := by
  intro l
  have : ∀ r : List α, p r.reverse := by
    intro r
    induction r with
    | nil => exact h0
    | cons a r ih => rw [List.reverse_cons]; exact h1 _ _ ih
  have := this l.reverse
  rwa [List.reverse_reverse] at this
theorem valL_lt : ∀ d : List UInt8, valL d < 256 ^ d.length := by
  refine snoc_ind (by simp [valL]) (fun d b ih => ?_)
  have := b.toNat_lt
  rw [valL_snoc, List.length_append, List.length_singleton, Nat.pow_succ]
  omega
theorem digL_ne {v : Nat} (h : v ≠ 0) : digL v ≠ [] := by rw [digL_step h]; simp
theorem digL_val : ∀ d : List UInt8, ∀ x r, d = x :: r → x ≠ 0 → digL (valL d) = d := by
  refine snoc_ind (by simp) (fun d b ih => ?_)
  intro x r he hx
  have hb := b.toNat_lt
  cases d with
  | nil =>
    simp only [List.nil_append, List.cons.injEq] at he
    obtain ⟨rfl, rfl⟩ := he
    have h0 : b.toNat ≠ 0 := fun e => hx (by apply UInt8.toNat_inj.1; simpa using e)
    have e : valL ([] ++ [b]) = b.toNat := by simp [valL]
    rw [e, digL_step h0, Nat.div_eq_of_lt hb, digL_zero, Nat.mod_eq_of_lt hb]
    simp
  | cons y d =>
    simp only [List.cons_append, List.cons.injEq] at he
    obtain ⟨rfl, _⟩ := he
    have ih := ih y d rfl hx
    have h1 : valL (y :: d) ≠ 0 := fun e => by rw [e, digL_zero] at ih; simp at ih
    rw [valL_snoc, digL_step (by omega), show (valL (y :: d) * 256 + b.toNat) / 256 = valL (y :: d) by omega, show (valL (y :: d) * 256 + b.toNat) % 256 = b.toNat by omega, ih]
    simp
theorem digL_head (v : Nat) (h : v ≠ 0) : ∃ x r, digL v = x :: r ∧ x ≠ 0 := by
  induction v using Nat.strongRecOn with
  | _ v ih =>
    by_cases hv : v < 256
    · refine ⟨UInt8.ofNat v, [], ?_, ?_⟩
      · rw [digL_step h, Nat.div_eq_of_lt hv, digL_zero, Nat.mod_eq_of_lt hv]; rfl
      · intro e
        have := congrArg UInt8.toNat e
        rw [UInt8.toNat_ofNat'] at this
        simp at this; omega
    · obtain ⟨x, r, h1, h2⟩ := ih (v / 256) (by omega) (by omega)
      exact ⟨x, r ++ [UInt8.ofNat (v % 256)], by rw [digL_step h, h1]; rfl, h2⟩
/-- What is read of a number: it, how many bytes, an error. -/
def readNumS : List UInt8 → Nat × Nat × Int
  | [] => (0, 0, 6)
  | c :: r => if c.toNat < 248 then (c.toNat, 1, 0) else if r.length < c.toNat - 247 then (0, 0, 6) else
    if r.headD 0 = 0 ∨ valL (r.take (c.toNat - 247)) < 248 then (0, 0, 7) else (valL (r.take (c.toNat - 247)), c.toNat - 247 + 1, 0)
theorem readNum_num {c : UInt8} {d : List UInt8} (hc : c.toNat = 247 + d.length) (h0 : d ≠ []) : numL (valL d) = c :: d ↔ ¬ (d.headD 0 = 0 ∨ valL d < 248) := by
  obtain ⟨x, r, rfl⟩ := List.exists_cons_of_ne_nil h0
  simp only [List.headD_cons]
  unfold numL
  by_cases hv : valL (x :: r) < 248
  · rw [if_pos hv]; simp [hv]
  · rw [if_neg hv]
    simp only [hv, or_false, List.cons.injEq]
    constructor
    · rintro ⟨_, h2⟩ hx
      obtain ⟨y, t, h3, h4⟩ := digL_head (valL (x :: r)) (by omega)
      rw [h2] at h3
      simp only [List.cons.injEq] at h3
      exact h4 (h3.1 ▸ hx)
    · intro hx
      have := digL_val _ x r rfl hx
      refine ⟨?_, this⟩
      have hl := digL_len (valL (x :: r))
      rw [this] at hl
      apply UInt8.toNat_inj.1
      have := c.toNat_lt
      rw [UInt8.toNat_ofNat', ← hl]
      omega
theorem readNumS_len {s : List UInt8} {v n : Nat} (h : readNumS s = (v, n, 0)) : n ≤ s.length ∧ 1 ≤ n ∧ v < 18446744073709551616 := by
  cases s with
  | nil => simp [readNumS] at h
  | cons c r =>
    have hc := c.toNat_lt
    simp only [readNumS] at h
    split at h
    · simp only [Prod.mk.injEq] at h; simp; omega
    · split at h
      · simp at h
      · split at h
        · simp at h
        · simp only [Prod.mk.injEq] at h
          obtain ⟨rfl, rfl, _⟩ := h
          rename_i h1 h2 h3
          refine ⟨by simp; omega, by omega, ?_⟩
          have := valL_lt (r.take (c.toNat - 247))
          refine Nat.lt_of_lt_of_le this ?_
          rw [List.length_take]
          exact Nat.le_trans (Nat.pow_le_pow_right (n := 256) (by omega) (show min (c.toNat - 247) r.length ≤ 8 by omega)) (by decide)
theorem readNumS_err {s : List UInt8} {v n : Nat} {e : Int} (h : readNumS s = (v, n, e)) (he : e ≠ 0) : v = 0 ∧ n = 0 ∧ (e = 6 ∨ e = 7) := by
  cases s with
  | nil => simp only [readNumS, Prod.mk.injEq] at h; omega
  | cons c r =>
    simp only [readNumS] at h
    split at h
    · simp only [Prod.mk.injEq] at h; omega
    · split at h
      · simp only [Prod.mk.injEq] at h; omega
      · split at h <;> simp only [Prod.mk.injEq] at h <;> omega
/-- What is read of a text: it, how many bytes, an error. -/
def readTextS (s : List UInt8) (most : Nat) : List UInt8 × Nat × Int :=
  match readNumS s with
  | (v, n, e) => if e ≠ 0 then ([], 0, e) else if most < v then ([], 0, 5) else if s.length - n < v then ([], 0, 6) else ((s.drop n).take v, n + v, 0)
end Go.Proofs.Yticoollhaachfaa
