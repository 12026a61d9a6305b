/-
  wire: a form's reader, whichever (walk).
-/
import Derived.Test.YtpcilobbohokcaaWirI
set_option linter.unusedSimpArgs false
set_option linter.unusedVariables false
namespace Go.Proofs.Ytpcilobbohokcaa
open Go Go.Wk Go.RowKit
attribute [local irreducible] go Hold
open Go.Lib
def m0 (k : Int) (x : Tx) : Msg := ⟨k, x, 0, [], [], false, []⟩
/-- What a form's reader makes of a message's rest. -/
def getO (k : Nat) (m : Msg) (l : List (List UInt8)) : Option Msg := match k with
  | 1 => match numT (l.getD 0 []) with
    | some v => (unmbS m.tx.1 (l.getD 1 [])).map fun mb => { m with aud := (v : Int), mbs := mb, body := l.getD 2 [] }
    | none => none
  | 2 => (k6O (l.getD 0 []) l.length (l.getD 1 [])).map fun v => { m with yes := v.1, tag := v.2 }
  | 3 => (unyesO (l.getD 0 [])).map fun v => { m with yes := v }
  | _ => some m
theorem lenRest {l : List (List UInt8)} (h : 1 ≤ l.length) : ∃ a r, l = a :: r := by
  cases l with
  | nil => simp at h
  | cons a r => exact ⟨a, r, rfl⟩
theorem len3' {l : List (List UInt8)} (h : l.length = 3) : ∃ a b c, l = [a, b, c] := by
  match l, h with
  | [a, b, c], _ => exact ⟨a, b, c, rfl⟩
set_option maxHeartbeats 4000000 in
theorem wRead_cps (k : Nat) (j : Int) (x : Tx) (p : Nat) (l : List (List UInt8)) (rv : Value) (hn : mnAt k ≤ l.length ∧ l.length ≤ mxAt k) (hz : ∀ t ∈ l, t.length ≤ maxLen) (w : World) (hh : w.heap[p]? = some (.cells (msgC (m0 j x) (.slice none 0 0)).toArray 42 (0, 0))) (hr : Rd w 1 rv l.length (l.map strV)) (hpr : ∀ b o c, rv = .slice (some ⟨b, o, none⟩) l.length c → b ≠ p) (R : Ending → World → Prop)
    (h1 : ∀ m sv w', getO k (m0 j x) l = some m → w'.heap[p]? = some (.cells (msgC m sv).toArray 42 (0, 0)) → w'.ownsRow w.heap.size 59 2 sv m.mbs.length (m.mbs.flatMap mbC) → Mod [p] w w' → R (.returned (.tuple #[])) w')
    (hN : getO k (m0 j x) l = none → ∀ w', Mod [p] w w' → R (.panicked wnoneV) w') : Calls Try.prog (rdAt k) #[.pointer (some ⟨p, 0, none⟩), rv] w R := by
  unfold rdAt
  unfold getO at h1 hN
  unfold mnAt mxAt at hn
  split
  · simp only at hn h1 hN
    obtain ⟨t0, t1, t2, rfl⟩ := len3' (show l.length = 3 by omega)
    simp only [List.getD_cons_zero, List.getD_cons_succ] at h1 hN
    refine wK3_cps (m0 j x) _ p t0 t1 t2 rv (hz _ (by simp)) (hz _ (by simp)) w hh hr hpr R ?_ ?_
    · intro v mb sv w' hv hmb hh' how hM
      refine h1 _ sv w' ?_ hh' how hM
      rw [hv]
      simp only
      rw [hmb]
      rfl
    · rintro (h | h) w' hM
      · exact hN (by rw [h]) w' (hM.mono (by simp))
      · refine hN ?_ w' (hM.mono (by simp))
        cases numT t0
        · rfl
        · simp only
          rw [h]
          rfl
  · simp only at hn h1 hN
    obtain ⟨t0, r, rfl⟩ := lenRest hn.1
    have e1 : (t0 :: r).getD 1 [] = r.getD 0 [] := by cases r <;> rfl
    rw [e1] at h1 hN
    simp only [List.getD_cons_zero, List.length_cons] at h1 hN
    refine wK6_cps (m0 j x) _ p t0 r rv rfl (hz _ (by simp)) (by simp only [List.length_cons] at hn; omega) w hh hr hpr R ?_ ?_
    · intro v t w' hv hh' hM
      exact h1 _ _ w' (by rw [hv]; rfl) hh' (World.ownsRow_nil _ _ _ _) hM
    · intro hv w' hM
      exact hN (by rw [hv]; rfl) w' hM
  · simp only at hn h1 hN
    obtain ⟨t0, r, rfl⟩ := lenRest hn.1
    simp only [List.getD_cons_zero] at h1 hN
    refine wK9_cps (m0 j x) _ p t0 r rv (hz _ (by simp)) w hh hr R ?_ ?_
    · intro v w' hv hh' hM
      exact h1 _ _ w' (by rw [hv]; rfl) hh' (World.ownsRow_nil _ _ _ _) hM
    · intro hv w' hM
      exact hN (by rw [hv]; rfl) w' (hM.mono (by simp))
  · rename_i g1 g2 g3
    refine wP3_cps _ _ w R ?_
    refine h1 (m0 j x) _ w ?_ hh (World.ownsRow_nil _ _ _ _) (Mod.refl _ _)
    split
    · exact absurd rfl g1
    · exact absurd rfl g2
    · exact absurd rfl g3
    · rfl
end Go.Proofs.Ytpcilobbohokcaa
