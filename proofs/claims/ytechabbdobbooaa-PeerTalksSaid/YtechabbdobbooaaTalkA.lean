/-
  The law PeerTalks (plain parts of the walk).
-/
import Derived.Test.YtechabbdobbooaaTalk2
set_option linter.unusedSimpArgs false
set_option linter.unusedVariables false
namespace Go.Proofs.Ytechabbdobbooaa
open Go Go.Wk Go.RowKit
attribute [local irreducible] go Hold
theorem talk_stamp {A B : Int} {i : Nat} (hA : epochOk A) (hB : epochOk B) (hi : i ≤ 200) :
    POk ⟨A, B, i, 0, 0⟩ ∧ stampA ⟨A, B, i, 0, 0⟩ = .tuple #[.int .i64 A, .int .i64 B, .int .i64 ((i : Int) + 1), .int .i64 0] ∧ stampS ⟨A, B, i, 0, 0⟩ = ⟨A, B, ((i + 1 : Nat) : Int), 0, 0⟩ := by
  have h1 : ¬ ((i : Int) = 65535) := by omega
  refine ⟨⟨hA, hB, ⟨by simp only; omega, by simp only; omega⟩, ⟨Int.le_refl 0, by show (0 : Int) ≤ 65535; decide, by show (0 : Nat) < 18446744073709551616; decide⟩⟩, ?_, ?_⟩
  · unfold stampA; rw [if_neg h1]
  · unfold stampS; rw [if_neg h1]; simp
theorem pw_ne {w : World} {pb wb pb' wb' : Nat} {s s' : PS} (h : isPeer w pb wb s) (h' : isPeer w pb' wb' s') : pb ≠ wb' := by
  intro e
  have h1 := h'.2.2; have h2 := h.2.1
  rw [← e, isWin, h2] at h1; simp at h1
theorem Two.row {w w2 w4 : World} {A B : Int} {m pbx wbx pby wby n : Nat} {sy : PS} {v : Value} {xs : List Value} (h : Two w w2 A B m pbx wbx pby wby sy) (hr : w2.ownsRow w.heap.size 43 3 v n xs) (hM : Mod v.ownBlock.toList w2 w4) : Two w w4 A B m pbx wbx pby wby sy := by
  have hno : ∀ k cs e' fr, w2.heap[k]? = some (.cells cs e' fr) → e' ≠ 43 → k ∉ v.ownBlock.toList := fun k cs e' fr hk hne hm => own_ne hr hk hne k (by simpa using hm) rfl
  exact ⟨h.x.mod hM (hno _ _ _ _ h.x.2.1 (by decide)) (hno _ _ _ _ h.x.2.2 (by decide)), h.y.mod hM (hno _ _ _ _ h.y.2.1 (by decide)) (hno _ _ _ _ h.y.2.2 (by decide)), h.own, h.known, h.p, h.v, h.px, h.py, h.wx, h.wy,
    h.mod.trans hM fun y hy => .inr (hr.lt y (by simpa using hy)).1⟩
theorem Two.keep {w w2 w4 : World} {A B : Int} {m pbx wbx pby wby : Nat} {sy : PS} (h : Two w w2 A B m pbx wbx pby wby sy) (hM : Mod [] w2 w4) : Two w w4 A B m pbx wbx pby wby sy :=
  ⟨h.x.mod hM (by simp) (by simp), h.y.mod hM (by simp) (by simp), h.own, h.known, h.p, h.v, h.px, h.py, h.wx, h.wy, h.mod.trans hM (by simp)⟩
theorem Two.take {w w1 w2 : World} {A B : Int} {m pbx wbx pby wby wb' : Nat} {sy s' : PS} (h : Two w w1 A B m pbx wbx pby wby sy) (k : isPeer w2 pby wb' s') (hw : wb' = wby ∨ w1.heap.size ≤ wb') (hM : Mod [pby, wby] w1 w2) (ho : s'.own = B) (hk : s'.known = A) :
    Two w w2 A B m pbx wbx pby wb' s' := by
  have h1 := ltOf h.x.2.2
  have h2 := h.mod.size
  have h3 := h.p; have h4 := h.v; have h5 := pw_ne h.x h.y; have h6 := pw_ne h.y h.x
  have h7 := h.wy; have h8 := h.py
  refine ⟨h.x.mod hM (by simp; omega) (by simp; omega), k, ho, hk, h.p, ?_, h.px, h.py, h.wx, ?_, h.mod.trans hM (by simp; omega)⟩
  · rcases hw with rfl | hw <;> omega
  · rcases hw with rfl | hw <;> omega
theorem winS_twice {s : PS} {n : Int} (h : mayC (winS s n).t (winS s n).v n = 9) : winS (winS s n) n = winS s n := by
  have e : tk ((winS s n).t, (winS s n).v) n = ((winS s n).t, (winS s n).v) := by
    unfold tk; rw [if_neg (by simp only; rw [h]; decide)]
  generalize winS s n = s' at *
  show ({ s' with t := _, v := _ } : PS) = s'
  rw [e]
theorem cell3_snoc (A B n : Int) (way : List Int) : (way ++ [n]).flatMap (cell3 A B) = way.flatMap (cell3 A B) ++ [.int .i64 A, .int .i64 B, .int .i64 n] := by simp [cell3]
/-- Facts about numbers, hidden from 'omega' (which would split each arrow). -/
structure TF (i L n : Nat) : Prop where
  e : ¬ i < L → min (i + 1) L = min i L
  em : i < L → min i L = i
  em1 : i < L → min (i + 1) L = i + 1
  hlx : i < L → n = min i 7
  hk0 : ¬ n = 0 → 0 < n
  hby : i < L → (n + 1) * 24 ≤ 140737488355328
  hmx : i < L → n + 1 ≤ maxLen
  h8 : i < L → ¬ n + 1 < 8 → n = 7 ∧ 7 ≤ i
  h8' : i < L → i ≤ 200
theorem TF.mk' {i L n : Nat} (h1 : L ≤ 200) (h2 : i ≤ L → n = min i 7) (h3 : n ≤ 7) : TF i L n := by
  refine ⟨?_, ?_, ?_, ?_, ?_, ?_, ?_, ?_, ?_⟩
  · intro h; omega
  · intro h; omega
  · intro h; omega
  · intro h; exact h2 (by omega)
  · intro h; omega
  · intro h; omega
  · intro h; unfold maxLen; omega
  · intro h h'; have := h2 (by omega); omega
  · intro h; omega
/-- What is drawn from a byte. -/
def TK (order : List Int) (i : Nat) : Prop := ∀ h : i < order.length, ∃ k : Nat, k < 8 ∧ (order[i]'h).tmod 8 = (k : Int)
theorem TK.mk {order : List Int} {i : Nat} (ho : ∀ x ∈ order, 0 ≤ x ∧ x ≤ 255) : TK order i := fun h => by
  have h0 := (ho _ (List.getElem_mem h)).1
  have h1 := Int.tmod_nonneg 8 h0
  have h2 := Int.tmod_lt_of_pos order[i] (b := 8) (by omega)
  exact ⟨(order[i].tmod 8).toNat, by omega, by omega⟩
theorem talk_ready {i k : Nat} {way : List Int} {s : PS} (h : TInv 46 i way s) (hl : way.length = 7) (hi : i ≤ 200) (hk : k < 8) (hold : k = 0 ∨ ∀ h0 : 0 < (way ++ [(i : Int) + 1]).length, (i : Int) - 40 < (way ++ [(i : Int) + 1])[0]) :
    ∃ hk : k < (way ++ [(i : Int) + 1]).length, nonceOk (way ++ [(i : Int) + 1])[k] ∧ mayC s.t s.v (way ++ [(i : Int) + 1])[k] = 0 ∧ mayC (winS s (way ++ [(i : Int) + 1])[k]).t (winS s (way ++ [(i : Int) + 1])[k]).v (way ++ [(i : Int) + 1])[k] = 9 ∧
      TInv 46 (i + 1) ((way ++ [(i : Int) + 1]).eraseIdx k) (winS s (way ++ [(i : Int) + 1])[k]) := by
  have hk2 : k < (way ++ [(i : Int) + 1]).length := by simp; omega
  have h1 := h.stampC (c' := 47) (.inr ⟨by omega, by omega⟩)
  have hr := h1.rng _ (List.getElem_mem hk2)
  refine ⟨hk2, ⟨by omega, by omega⟩, h.both (by omega) (by omega) hk2 ?_⟩
  rcases hold with rfl | h0
  · exact .inl rfl
  · exact .inr (TInv.first (m := i) (s := s) h1.sorted k hk2 _ (h0 (by omega)))
end Go.Proofs.Ytechabbdobbooaa
