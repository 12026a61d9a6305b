/-
  The law PeerTalks (the walk).
-/
import Derived.Test.YtechabbdobbooaaTalk1
import Derived.Test.YtechabbdobbooaaRd
set_option linter.unusedSimpArgs false
set_option linter.unusedVariables false
namespace Go.Proofs.Ytechabbdobbooaa
open Go Go.Wk Go.RowKit
attribute [local irreducible] go Hold
def cell3 (A B n : Int) : List Value := [.int .i64 A, .int .i64 B, .int .i64 n]
theorem takeC_same {s : PS} {a n : Int} (ha : epochOk a) (hb : epochOk s.own) (hn : nonceOk n) (hk : s.known = a) : takeC s a s.own n = mayC s.t s.v n ∧ takeS s a s.own n = winS s n := by
  have hh : hearS s a = s := by unfold hearS; rw [if_neg (by omega)]
  have h1 : ¬ ¬ (epochOk a ∧ epochOk s.own ∧ nonceOk n) := by simp [ha, hb, hn]
  have h2 : ¬ (s.own ≠ s.own) := by simp
  have h3 : ¬ a < s.known := by omega
  unfold takeC takeS
  rw [if_neg h1, if_neg h1, if_neg h2, if_neg h2, if_neg h3, if_neg h3, hh]
  exact ⟨rfl, rfl⟩
theorem hear_new {A B : Int} (hB : 1 ≤ B) : hearS (newS A) B = ⟨A, B, 0, 0, 0⟩ := by
  unfold hearS newS
  simp only
  split
  · rfl
  · have : B = 1 := by omega
    subst this; rfl
theorem hearT_new {A B : Int} (hB : epochOk B) : hearC (newS A) B = 0 ∧ hearT (newS A) B = ⟨A, B, 0, 0, 0⟩ := by
  have h0 : hearC (newS A) B = 0 := by
    unfold hearC; rw [if_neg (by simpa using hB)]
    rw [if_neg (by have := hB.1; show ¬ B < 1; omega)]
  exact ⟨h0, by unfold hearT; rw [if_pos h0, hear_new hB.1]⟩
/-- What stands of the two in memory. -/
structure Two (w w' : World) (A B : Int) (m : Nat) (pbx wbx pby wby : Nat) (sy : PS) : Prop where
  x : isPeer w' pbx wbx ⟨A, B, m, 0, 0⟩
  y : isPeer w' pby wby sy
  own : sy.own = B
  known : sy.known = A
  p : pbx ≠ pby
  v : wbx ≠ wby
  px : w.heap.size ≤ pbx
  py : w.heap.size ≤ pby
  wx : w.heap.size ≤ wbx
  wy : w.heap.size ≤ wby
  mod : Mod [] w w'
def TalkI (w : World) (A B : Int) (L i : Nat) (pbx pby : Nat) (vs : List Value) (w' : World) : Prop :=
  ∃ (way : List Int) (sv : Value) (wbx wby : Nat) (sy : PS), vs = [sv, .int .i64 i] ∧ (i ≤ L → way.length = min i 7) ∧ way.length ≤ 7 ∧ TInv 46 (min i L) way sy ∧ Two w w' A B (min i L) pbx wbx pby wby sy ∧
    w'.ownsRow w.heap.size 43 3 sv way.length (way.flatMap (cell3 A B))
/-- Ready to take. -/
def TalkR (w : World) (A B : Int) (L i : Nat) (pbx pby : Nat) (vs : List Value) (w' : World) : Prop :=
  ∃ (way : List Int) (sv : Value) (wbx wby : Nat) (sy : PS) (k : Nat) (hk : k < way.length), vs = [sv, .int .i64 i, .int .i64 k] ∧ (i + 1 ≤ L → way.length = 8 ∧ 7 ≤ i) ∧ way.length ≤ 8 ∧ (L ≤ i → way.length ≤ 7) ∧ nonceOk way[k] ∧
    mayC sy.t sy.v way[k] = 0 ∧ mayC (winS sy way[k]).t (winS sy way[k]).v way[k] = 9 ∧ TInv 46 (min (i + 1) L) (way.eraseIdx k) (winS sy way[k]) ∧ WOk (sy.t, sy.v) ∧ Two w w' A B (min (i + 1) L) pbx wbx pby wby sy ∧
    w'.ownsRow w.heap.size 43 3 sv way.length (way.flatMap (cell3 A B))
theorem rest_step (way : List Int) (k j : Nat) (hj : j < way.length) : (way.take (j + 1)).eraseIdx k = if j = k then (way.take j).eraseIdx k else (way.take j).eraseIdx k ++ [way[j]] := by
  rw [List.take_succ_eq_append_getElem hj]
  have hl : (way.take j).length = j := by rw [List.length_take]; omega
  split
  · rename_i h; subst h
    rw [List.eraseIdx_append_of_length_le (by omega), hl, Nat.sub_self, List.eraseIdx_of_length_le (l := way.take j) (by omega)]
    simp
  · rename_i h
    rcases Nat.lt_or_ge k j with h1 | h1
    · rw [List.eraseIdx_append_of_lt_length (by omega)]
    · rw [List.eraseIdx_append_of_length_le (by omega), hl, List.eraseIdx_of_length_le (l := way.take j) (by omega), List.eraseIdx_of_length_le (by simp; omega)]
end Go.Proofs.Ytechabbdobbooaa
