/-
  The table of the rounds: some numbers, whichever, stand where the world is shaped.
-/
import Derived.Test.YtoladcdelaemoaaQeSha2
import Derived.HandedShaped
set_option linter.unusedSimpArgs false
set_option linter.unusedVariables false
set_option maxRecDepth 20000
namespace Go.Proofs.Ytoladcdelaemoaa
open Go Go.Wk Go.RowKit
attribute [local irreducible] go Hold
theorem ktab_of {W : World} (hS : W.ShapedOpen Try.prog) : ∃ kt, KTab W kt := by
  obtain ⟨cs, hh, hs, hr⟩ := hS.1 1 (List.replicate 64 (Value.int .u32 0)).toArray 186 (of_decide_eq_true (by kernel_rfl)) (by kernel_rfl)
  obtain ⟨ts, hts, _, hall⟩ := hr (by kernel_rfl)
  have hc : Try.prog.cellTypes Try.prog.depth 186 = some (List.replicate 64 155) := by kernel_rfl
  rw [hc] at hts
  cases hts
  have hu : Try.prog.underlying 155 = some (.int .u32) := by kernel_rfl
  have hs64 : cs.size = 64 := by rw [hs]; rfl
  have key : ∀ l : List Value, (∀ v ∈ l, ∃ n, v = .int .u32 n) → ∃ kt : List Int, l = kt.map u32V := by
    intro l
    induction l with
    | nil => intro _; exact ⟨[], rfl⟩
    | cons v l ih =>
      intro h
      obtain ⟨n, rfl⟩ := h v (by simp)
      obtain ⟨kt, rfl⟩ := ih fun u hu => h u (by simp [hu])
      exact ⟨n :: kt, rfl⟩
  obtain ⟨kt, hkt⟩ := key cs.toList (by
    intro v hv
    obtain ⟨i, hi, he⟩ := List.getElem_of_mem hv
    have hi2 : i < cs.size := by simpa using hi
    obtain ⟨u, hu1, hok⟩ := hall i v (by rw [← he]; simp [hi2])
    have hu2 : u = 155 := by
      rw [List.length_replicate, List.getElem?_replicate] at hu1
      split at hu1
      · exact (Option.some.inj hu1).symm
      · cases hu1
    subst hu2
    unfold Cell.ok at hok
    rw [hu] at hok
    cases v <;> first | (simp at hok; done) | (obtain ⟨rfl, _⟩ := hok; exact ⟨_, rfl⟩))
  refine ⟨kt, ⟨186, (0, 0), ?_⟩, ?_⟩
  · rw [hh, ← hkt]
  · have := congrArg List.length hkt
    simp at this
    omega
end Go.Proofs.Ytoladcdelaemoaa
