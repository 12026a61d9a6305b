/-
  The reference's Decode of a message (walk).
-/
import Derived.Test.YtpcilobbohokcaaGreatRrdRefI
import Derived.Test.YtpcilobbohokcaaGreatRrdRefE
set_option linter.unusedSimpArgs false
set_option linter.unusedVariables false
set_option maxRecDepth 20000
namespace Go.Proofs.YtpcilobbohokcaaGreat
open Go Go.Wk Go.RowKit
attribute [local irreducible] go Hold
open Go.Lib
theorem rReadTxn12_u (S : List UInt8) (hS : S.length ≤ maxLen) (w : World) (R : Ending → World → Prop) (hR : ∀ w', Mod [] w w' → R (.returned (.tuple #[txV ((untxO S).getD (0, 0, 0)), .bool (untxO S).isSome])) w') :
    Calls Tryz.prog 47 #[.string ⟨S.toArray⟩] w R :=
  rReadTxn12_cps S hS w R (fun x w' h hM => by have := hR w' hM; rw [h] at this; exact this) (fun h w' hM => by have := hR w' hM; rw [h] at this; exact this)
theorem rReadMembers12_u (x : Tx) (S : List UInt8) (hS : S.length ≤ maxLen) (w : World) (R : Ending → World → Prop) (hR : ∀ sv w', w'.ownsRow w.heap.size 126 2 sv ((unmbS x.1 S).getD []).length (((unmbS x.1 S).getD []).flatMap mbC) → Mod [] w w' → R (.returned (.tuple #[sv, .bool (unmbS x.1 S).isSome])) w') :
    Calls Tryz.prog 49 #[txV x, .string ⟨S.toArray⟩] w R :=
  rReadMembers12_cps x S hS w R (fun l sv w' h ho hM => by have := hR sv w'; rw [h] at this; exact this ho hM) (fun h w' hM => by have := hR (.slice none 0 0) w'; rw [h] at this; exact this (World.ownsRow_nil _ _ _ _) hM)
theorem unmb_get (c : Int) (S : List UInt8) : ((unmbS c S).getD []).length ≤ 6 ∧ ∀ x ∈ (unmbS c S).getD [], x.2.length ≤ 16384 := by
  cases h : unmbS c S with
  | none => simp
  | some l =>
    have hB := (unmb_back h).2
    unfold mbB at hB
    rw [Bool.and_eq_true] at hB
    exact ⟨(of_decide_eq_true hB.2).2, fun y hy => (check0 (mbs_el hB.1 y hy).2.2).2.2.1⟩
theorem num_get (S : List UInt8) : (numT S).getD 0 ≤ 2147483647 := by
  cases h : numT S with
  | none => simp
  | some v => exact (of_numT h).2
theorem nuV_u (o : Option Nat) : nuV o = .tuple #[.int .i64 ((o.getD 0 : Nat) : Int), .bool o.isSome] := by cases o <;> rfl
end Go.Proofs.YtpcilobbohokcaaGreat
