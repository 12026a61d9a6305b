/- What is proved: for every input the law SuiteApart (chapter 8) returns true, and each argument reads behind the call as it read before. No condition. -/
import Derived.Test.YtoladcdelaemoaaRows
import Derived.Test.YtoladcdelaemoaaQeGs
import Derived.Deep.Slices
import Derived.Test.YtoladcdelaemoaaQeSapd
import Derived.Test.YtoladcdelaemoaaQeKtb
import Derived.ProofKit
import Derived.OpenShut
import Derived.ShutString
import Derived.ChangeOld
import Derived.Below
import Derived.HandedShaped
set_option linter.unusedVariables false
set_option linter.unusedSimpArgs false
namespace Go.Proofs.Ytoladcdelaemoaa.suiteApart
open Go.ChangeShapes Go.WideShapes Go.ChangeAt Go.RowKit Go.Wk
open Go.Proofs.Ytoladcdelaemoaa
theorem own : ownKnob Try.prog.godebug = none := by kernel_rfl
theorem laidOut : laidOutB Try.prog = true := by kernel_rfl
set_option maxRecDepth 100000 in
theorem lifted (os : Os) (started : os.Started) (H : Type) (enc : TypeId × Value → H) :
    ReturnsInHanded {} Try.checked os 5 .any (Rows.suiteApartSpec.pre6 enc Try.prog Try.f5 Rows.suiteApartRow.domain false) (Rows.suiteApartSpec.post enc Try.prog Try.f5 false true false false) := by
  refine returnsInHanded_of_change_shaped (C := Try.checked) own started (by kernel_rfl) Try.func5
    (ChangeSpec.witness6 (enc := enc) (C := Try.checked) false ⟨#[], #[.string ByteArray.empty, .string ByteArray.empty, .string ByteArray.empty, .string ByteArray.empty, .string ByteArray.empty, .string ByteArray.empty, .string ByteArray.empty, .string ByteArray.empty], []⟩ 8 (by kernel_rfl) (by kernel_rfl) (by kernel_rfl) (by kernel_rfl)) ?_
  intro W base args ds gs before hval0 hW hcnd _ hS _
  have hval : ∀ (j : Nat) t v, Try.f5.params[j]? = some t → args[j]? = some v → Value.okWide Try.prog W .any base t v := hval0
  have hW' := hW
  obtain ⟨p, q, hA0, hV, rfl, hfz, hnd⟩ := hW
  have hA : DataW.TrodAll enc Try.prog W 0 (fun _ => true) true Try.f5.params.toList args.toList ds p := hA0
  rw [Try.params5] at hA hval
  obtain ⟨v0, vs0, d0, ds0, p0, q0, hargs, rfl, rfl, h0, rr0⟩ := trodAll_cons hA
  obtain ⟨v1, vs1, d1, ds1, p1, q1, rfl, rfl, rfl, h1, rr1⟩ := trodAll_cons rr0
  obtain ⟨v2, vs2, d2, ds2, p2, q2, rfl, rfl, rfl, h2, rr2⟩ := trodAll_cons rr1
  obtain ⟨v3, vs3, d3, ds3, p3, q3, rfl, rfl, rfl, h3, rr3⟩ := trodAll_cons rr2
  obtain ⟨v4, vs4, d4, ds4, p4, q4, rfl, rfl, rfl, h4, rr4⟩ := trodAll_cons rr3
  obtain ⟨v5, vs5, d5, ds5, p5, q5, rfl, rfl, rfl, h5, rr5⟩ := trodAll_cons rr4
  obtain ⟨v6, vs6, d6, ds6, p6, q6, rfl, rfl, rfl, h6, rr6⟩ := trodAll_cons rr5
  obtain ⟨v7, vs7, d7, ds7, p7, q7, rfl, rfl, rfl, h7, rr7⟩ := trodAll_cons rr6
  obtain ⟨rfl, rfl, rfl⟩ := trodAll_nil rr7
  obtain rfl : args = #[v0, v1, v2, v3, v4, v5, v6, v7] := by cases args; simp_all
  obtain ⟨rfl, rfl⟩ := trodVars_none hV
  have k0 := h0
  have lt0 : ∀ x ∈ p0, x.block < W.heap.size := by obtain ⟨m, hm⟩ := k0; exact DataW.trod_lt m _ _ _ hm
  have k1 := h1
  have lt1 : ∀ x ∈ p1, x.block < W.heap.size := by obtain ⟨m, hm⟩ := k1; exact DataW.trod_lt m _ _ _ hm
  have k2 := h2
  have lt2 : ∀ x ∈ p2, x.block < W.heap.size := by obtain ⟨m, hm⟩ := k2; exact DataW.trod_lt m _ _ _ hm
  have k3 := h3
  have lt3 : ∀ x ∈ p3, x.block < W.heap.size := by obtain ⟨m, hm⟩ := k3; exact DataW.trod_lt m _ _ _ hm
  have k4 := h4
  have lt4 : ∀ x ∈ p4, x.block < W.heap.size := by obtain ⟨m, hm⟩ := k4; exact DataW.trod_lt m _ _ _ hm
  have k5 := h5
  have lt5 : ∀ x ∈ p5, x.block < W.heap.size := by obtain ⟨m, hm⟩ := k5; exact DataW.trod_lt m _ _ _ hm
  have k6 := h6
  have lt6 : ∀ x ∈ p6, x.block < W.heap.size := by obtain ⟨m, hm⟩ := k6; exact DataW.trod_lt m _ _ _ hm
  have k7 := h7
  have lt7 : ∀ x ∈ p7, x.block < W.heap.size := by obtain ⟨m, hm⟩ := k7; exact DataW.trod_lt m _ _ _ hm
  obtain ⟨x0, rfl⟩ := okWide_string Try.underlying9 (hval 0 9 v0 rfl rfl)
  have g0 : x0.size ≤ maxLen := by
    obtain ⟨fu, hf⟩ := k0
    obtain ⟨y, e1, _, e2⟩ := DataW.trod_string Try.underlying9 hf
    simp [Value.cells] at e1
    subst e1
    exact e2
  obtain ⟨x1, rfl⟩ := okWide_string Try.underlying9 (hval 1 9 v1 rfl rfl)
  have g1 : x1.size ≤ maxLen := by
    obtain ⟨fu, hf⟩ := k1
    obtain ⟨y, e1, _, e2⟩ := DataW.trod_string Try.underlying9 hf
    simp [Value.cells] at e1
    subst e1
    exact e2
  obtain ⟨x2, rfl⟩ := okWide_string Try.underlying9 (hval 2 9 v2 rfl rfl)
  have g2 : x2.size ≤ maxLen := by
    obtain ⟨fu, hf⟩ := k2
    obtain ⟨y, e1, _, e2⟩ := DataW.trod_string Try.underlying9 hf
    simp [Value.cells] at e1
    subst e1
    exact e2
  obtain ⟨x3, rfl⟩ := okWide_string Try.underlying9 (hval 3 9 v3 rfl rfl)
  have g3 : x3.size ≤ maxLen := by
    obtain ⟨fu, hf⟩ := k3
    obtain ⟨y, e1, _, e2⟩ := DataW.trod_string Try.underlying9 hf
    simp [Value.cells] at e1
    subst e1
    exact e2
  obtain ⟨x4, rfl⟩ := okWide_string Try.underlying9 (hval 4 9 v4 rfl rfl)
  have g4 : x4.size ≤ maxLen := by
    obtain ⟨fu, hf⟩ := k4
    obtain ⟨y, e1, _, e2⟩ := DataW.trod_string Try.underlying9 hf
    simp [Value.cells] at e1
    subst e1
    exact e2
  obtain ⟨x5, rfl⟩ := okWide_string Try.underlying9 (hval 5 9 v5 rfl rfl)
  have g5 : x5.size ≤ maxLen := by
    obtain ⟨fu, hf⟩ := k5
    obtain ⟨y, e1, _, e2⟩ := DataW.trod_string Try.underlying9 hf
    simp [Value.cells] at e1
    subst e1
    exact e2
  obtain ⟨x6, rfl⟩ := okWide_string Try.underlying9 (hval 6 9 v6 rfl rfl)
  have g6 : x6.size ≤ maxLen := by
    obtain ⟨fu, hf⟩ := k6
    obtain ⟨y, e1, _, e2⟩ := DataW.trod_string Try.underlying9 hf
    simp [Value.cells] at e1
    subst e1
    exact e2
  obtain ⟨x7, rfl⟩ := okWide_string Try.underlying9 (hval 7 9 v7 rfl rfl)
  have g7 : x7.size ≤ maxLen := by
    obtain ⟨fu, hf⟩ := k7
    obtain ⟨y, e1, _, e2⟩ := DataW.trod_string Try.underlying9 hf
    simp [Value.cells] at e1
    subst e1
    exact e2
  clear hA0 hval0 hval
  have walk : Calls Try.prog 5 #[.string x0, .string x1, .string x2, .string x3, .string x4, .string x5, .string x6, .string x7] W fun e w' => e = .returned (.bool true) ∧ Below W.heap.size W w' := by
    skip
    obtain ⟨kt, hK⟩ := ktab_of hS
    have es : ∀ z : ByteArray, Value.string z = strV z.data.toList := fun z => by cases z; simp [strV]
    rw [es x0, es x1, es x2, es x3, es x4, es x5, es x6, es x7]
    exact apart8_cps kt x0.data.toList x1.data.toList x2.data.toList x3.data.toList x4.data.toList x5.data.toList x6.data.toList x7.data.toList g0 g1 g2 g3 g4 g5 g6 g7 W hK _ fun w' hM => ⟨rfl, hM.below (Nat.le_refl _) (by simp)⟩
  refine walk.mono fun e W' ⟨he, bel⟩ => ?_
  subst he
  exact ⟨_, rfl, _, _, _, [], _, [], hW', trodAll_mk1 (shut_bool Try.underlying4 _), (trodAll_cons_mk (Below.trod laidOut (by kernel_rfl) (of_decide_eq_true (by kernel_rfl)) k0 bel lt0) (trodAll_cons_mk (Below.trod laidOut (by kernel_rfl) (of_decide_eq_true (by kernel_rfl)) k1 bel lt1) (trodAll_cons_mk (Below.trod laidOut (by kernel_rfl) (of_decide_eq_true (by kernel_rfl)) k2 bel lt2) (trodAll_cons_mk (Below.trod laidOut (by kernel_rfl) (of_decide_eq_true (by kernel_rfl)) k3 bel lt3) (trodAll_cons_mk (Below.trod laidOut (by kernel_rfl) (of_decide_eq_true (by kernel_rfl)) k4 bel lt4) (trodAll_cons_mk (Below.trod laidOut (by kernel_rfl) (of_decide_eq_true (by kernel_rfl)) k5 bel lt5) (trodAll_cons_mk (Below.trod laidOut (by kernel_rfl) (of_decide_eq_true (by kernel_rfl)) k6 bel lt6) (trodAll_cons_mk (Below.trod laidOut (by kernel_rfl) (of_decide_eq_true (by kernel_rfl)) k7 bel lt7) trodAll_mk0)))))))), rfl, bel.frame _, fun h => by cases h⟩
theorem over : Rows.suiteApartRow.holds Try.pinned (OpenSpec.ofChange Rows.suiteApartSpec) :=
  OpenClaim.holds_of_wide 5 Try.f5 rfl rfl rfl rfl rfl rfl rfl ⟨rfl, rfl, rfl, rfl, rfl⟩ rfl rfl rfl rfl rfl (by kernel_rfl) Try.func5 (by kernel_rfl)
    (of_decide_eq_true (by kernel_rfl)) (by unfold Func.isWrapper; first | (rw [if_pos (by decide +kernel)]; kernel_rfl) | (rw [if_neg (by decide +kernel)]; exact ⟨rfl, rfl⟩))
    (fun os started H enc _ => lifted os started H enc)
theorem proved : Rows.SuiteApartSaid := over
#print axioms proved
end Go.Proofs.Ytoladcdelaemoaa.suiteApart
