/-
  strings.Builder: String (walk; after the shelf's own).
-/
import Derived.Test.YticoollhaachfaaBld2
import Derived.Shelf.RegionOpenPlain
import Derived.Lib.UnsafeStr
set_option linter.unusedSimpArgs false
set_option linter.unusedVariables false
namespace Go.Proofs.Yticoollhaachfaa
open Go Go.Wk Go.RowKit
attribute [local irreducible] go Hold
open Go.Lib
theorem cellsU8 : Try.prog.cellsOf 5 = 1 := by kernel_rfl
set_option maxHeartbeats 1000000 in
set_option maxRecDepth 100000 in
theorem bString (B b : Nat) (l : List UInt8) (w : World) (h : IsBuilderF 101 5 B b (byteCells l) w) (h0 : l ≠ []) :
    Calls Try.prog 60 #[.pointer (some ⟨b, 0, none⟩)] w fun e w' => e = .returned (.string ⟨l.toArray⟩) ∧ (IsBuilderF 101 5 B b (byteCells l) w' ∧ BM B w w') := by
  obtain ⟨p, hp, hAt⟩ : ∃ p, (p = .pointer none ∨ p = .pointer (some ⟨b, 0, none⟩)) ∧ BuilderAtF 101 5 B b p (byteCells l) w := by
    rcases h with h | h
    · exact ⟨_, .inl rfl, h⟩
    · exact ⟨_, .inr rfl, h⟩
  obtain ⟨hB, v, hbk, hown, hne⟩ := hAt
  have hl0 : l.length ≠ 0 := by simpa using h0
  rw [byteCells_length] at hown
  obtain ⟨g, cap, cur, fz, rfl, hbg, hg, hfz, hnc, hcm, hcs, htake⟩ : ∃ g cap cur fz, v = .slice (some ⟨g, 0, none⟩) l.length cap ∧ B ≤ g ∧ w.heap[g]? = some (.cells cur 5 fz) ∧ fz.2 ≤ l.length * 1 ∧ l.length ≤ cap ∧ cap ≤ maxLen ∧ cur.size = cap * 1 ∧ cur.toList.take (l.length * 1) = byteCells l := by
    rcases hown.2 with ⟨_, hz⟩ | ⟨g, cap, cur, fz, hv, r⟩
    · exact absurd hz hl0
    · exact ⟨g, cap, cur, fz, hv, r⟩
  have c1 : w.drew.cell? ⟨b, 1, none⟩ = some (.slice (some ⟨g, 0, none⟩) l.length cap) := by
    have : w.drew.heap[b]? = some (.cells #[p, .slice (some ⟨g, 0, none⟩) l.length cap] 101 (0, 0)) := hbk
    rw [cell_of_heap this]; rfl
  have hSD : (Builtin.unsafeSliceData_ #[99] 127 #[.slice (some ⟨g, 0, none⟩) l.length cap]).run Try.prog w.drew = .ok (.pointer (some ⟨g, 0, none⟩)) w.drew :=
    run_unsafeSliceData_row _ _ _ _ _ _ (by omega)
  have hUS : (Builtin.unsafeString_ #[127, 3] 9 #[.pointer (some ⟨g, 0, none⟩), .int .i64 l.length]).run Try.prog w.drew = .ok (.string ⟨l.toArray⟩) (w.drew.freeze ⟨g, 0, none⟩ l.length) := by
    refine run_unsafeString_row w.drew 127 3 9 5 Try.underlying127 cellsU8 g cur.size (by have hg' : w.drew.heap[g]? = some (.cells cur 5 fz) := hg; simp [World.shape?, hg']) l h0 (by omega) (by unfold maxLen at hcm; omega) ?_
    intro j x hx
    exact hown.cells (g := g) rfl j (.int .u8 x.toNat) (by simp [byteCells, hx])
  have hkeep : IsBuilderF 101 5 B b (byteCells l) (w.drew.freeze ⟨g, 0, none⟩ l.length) := by
    have hA : BuilderAtF 101 5 B b p (byteCells l) w.drew := ⟨hB, _, hbk, by rw [byteCells_length]; exact hown, hne⟩
    have hF := hA.froze (g := g) (cap := cap) (by rw [byteCells_length]; exact c1)
    rw [byteCells_length] at hF
    rcases hp with rfl | rfl
    · exact .inl hF
    · exact .inr hF
  have hbm : BM B w (w.drew.freeze ⟨g, 0, none⟩ l.length) := by
    have hz : Mod [g] w.drew (w.drew.freeze ⟨g, 0, none⟩ l.length) := by
      unfold World.freeze
      split
      · exact Mod.refl _ _
      · exact ⟨rfl, rfl, rfl, by simp, fun k hk hn => by
          simp only [List.mem_cons, List.not_mem_nil, or_false] at hn
          simp only [Array.getElem?_modify]
          rw [if_neg (Ne.symm hn)]⟩
    refine ⟨[g], (show Mod [g] w w.drew from (Mod.refl [g] w).drewN 1).trans hz (fun x hx => .inl hx), ?_⟩
    · intro x hx; simp only [List.mem_cons, List.not_mem_nil, or_false] at hx; subst hx; exact ⟨hbg, .inl ⟨_, _, _, hg, .inl rfl⟩⟩
  have hmix : Try.prog.follows Departure.mixedOrders = true := okT.mixed
  go_enter Try.func60, Try.ntmps60
  go_wp2
  go_region_o
  all_goals (go_wp2; go_ret; exact ⟨rfl, hkeep, hbm⟩)
end Go.Proofs.Yticoollhaachfaa
