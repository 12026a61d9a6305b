/-
  receipt.Ballots (walk).
-/
import Derived.Test.YtpcilobbohokcaaGreatRtlC4
set_option linter.unusedSimpArgs false
set_option linter.unusedVariables false
set_option maxRecDepth 20000
namespace Go.Proofs.YtpcilobbohokcaaGreat
open Go Go.Wk Go.RowKit
attribute [local irreducible] go Hold
open Go.Lib
theorem zeroRow {w : World} {e base size : Nat} (hb : base ≤ w.heap.size) : (w.alloc (.cells #[] e)).ownsRow base e size (.slice (some ⟨w.heap.size, 0, none⟩) 0 0) 0 [] :=
  ⟨by simp, .inr ⟨w.heap.size, 0, #[], rfl, hb, heapNew, Nat.le_refl _, by unfold maxLen; omega, by simp, by simp⟩⟩
/-- A ballot's cells. -/
def blC (r : Rcp) (ms : Value) (o : Int) : List Value := [.int .i64 r.tx.1, .int .i64 r.tx.2.1, .int .i64 r.tx.2.2, .int .i64 r.aud, ms, .int .i64 o]
/-- The ballots of so many members, with whatever slices of members. -/
def blL (r : Rcp) : List Value → List Mb → List Value
  | v :: vs, m :: l => blC r v m.1 ++ blL r vs l
  | _, _ => []
theorem blL_snoc (r : Rcp) : ∀ (vs : List Value) (l : List Mb) (v : Value) (m : Mb), vs.length = l.length → blL r (vs ++ [v]) (l ++ [m]) = blL r vs l ++ blC r v m.1
  | [], [], v, m, _ => by simp [blL]
  | x :: vs, y :: l, v, m, h => by
    simp only [List.length_cons, Nat.add_right_cancel_iff] at h
    simp only [List.cons_append, blL, blL_snoc r vs l v m h, List.append_assoc]
  | [], _ :: _, _, _, h => by simp at h
  | _ :: _, [], _, _, h => by simp at h
end Go.Proofs.YtpcilobbohokcaaGreat
