/-
  A ballot as an argument.
-/
import Derived.Test.YthnlmmkhehphiaaGreatDoorEaW2
import Derived.Test.YthnlmmkhehphiaaGreatDoorEaPar3
set_option linter.unusedSimpArgs false
set_option linter.unusedVariables false
set_option maxRecDepth 20000
namespace Go.Proofs.YthnlmmkhehphiaaGreatDoor
open Go Go.Wk Go.RowKit
attribute [local irreducible] go Hold
open Go.Lib
def blC (q : Tx × Int × List Mb × Int) (ms : Value) : List Value := [.int .i64 q.1.1, .int .i64 q.1.2.1, .int .i64 q.1.2.2, .int .i64 q.2.1, ms, .int .i64 q.2.2.2]
section
variable {H : Type} {enc : TypeId × Value → H} {w : World} {base : Nat} {spare : Nat → Bool} {held : Bool}
theorem cells6b {cs : List Value} (hl : cs.length = 6) : ∃ k0 k1 k2 k3 k4 k5, cs = [k0, k1, k2, k3, k4, k5] := by
  match cs, hl with
  | [k0, k1, k2, k3, k4, k5], _ => exact ⟨_, _, _, _, _, _, rfl⟩
set_option maxHeartbeats 2000000 in
theorem bal_el : ∀ n cs y, DataW.trod enc Tryz.prog w base spare held n 26 cs = some y → ∃ (q : Tx × Int × List Mb × Int) (ms : Value), cs = blC q ms ∧ MbsIn w ms q.2.2.1 := by
  intro n cs y h
  obtain ⟨hl, hf⟩ := el_field Tryz.underlying26 h
  rw [show Tryz.prog.cellsOf 26 = 6 from by kernel_rfl] at hl
  obtain ⟨m0, z0, e0⟩ := hf 0 _ rfl
  obtain ⟨m1, z1, e1⟩ := hf 1 _ rfl
  obtain ⟨m2, z2, e2⟩ := hf 2 _ rfl
  obtain ⟨m3, z3, e3⟩ := hf 3 _ rfl
  obtain ⟨a0, f0, t1, t2, t3⟩ := tx_el _ _ _ e0
  obtain ⟨a1, f1, _, g1⟩ := DataW.trod_int Tryz.underlying3 e1
  obtain ⟨sa, l, f2, hm⟩ := mbs_in e2
  obtain ⟨a3, f3, _, g3⟩ := DataW.trod_int Tryz.underlying3 e3
  have f0 : List.take (Tryz.prog.cellsOf 23) (List.drop 0 cs) = _ := f0
  have f1 : List.take (Tryz.prog.cellsOf 3) (List.drop 3 cs) = _ := f1
  have f2 : List.take (Tryz.prog.cellsOf 24) (List.drop 4 cs) = _ := f2
  have f3 : List.take (Tryz.prog.cellsOf 3) (List.drop 5 cs) = _ := f3
  rw [show Tryz.prog.cellsOf 23 = 3 from by kernel_rfl] at f0
  rw [show Tryz.prog.cellsOf 3 = 1 from by kernel_rfl] at f1 f3
  rw [show Tryz.prog.cellsOf 24 = 1 from by kernel_rfl] at f2
  obtain ⟨k0, k1, k2, k3, k4, k5, rfl⟩ := cells6b hl
  clear e0 e1 e2 e3 hf h
  unfold txC at f0
  simp only [List.drop_succ_cons, List.drop_zero, List.take_succ_cons, List.take_zero, List.cons.injEq, and_true] at f0 f1 f2 f3
  refine ⟨(a0, a1, l, a3), sa, ?_, hm⟩
  unfold blC
  simp only
  rw [f0.1, f0.2.1, f0.2.2, f1, f2, f3]
end
end Go.Proofs.YthnlmmkhehphiaaGreatDoor
