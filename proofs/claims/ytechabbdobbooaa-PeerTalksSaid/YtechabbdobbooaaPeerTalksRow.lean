/- What is proved: for every input the law PeerTalks (chapter 19) returns true, and each argument reads behind the call as it read before. No condition. -/
import Derived.Test.YtechabbdobbooaaRows
import Derived.Test.YtechabbdobbooaaRd
import Derived.Test.YtechabbdobbooaaTalk3
import Derived.ProofKit
import Derived.OpenShut
import Derived.ShutString
import Derived.ChangeOld
import Derived.Below
set_option linter.unusedVariables false
set_option linter.unusedSimpArgs false
namespace Go.Proofs.Ytechabbdobbooaa.peerTalks
open Go.ChangeShapes Go.WideShapes Go.ChangeAt Go.RowKit Go.Wk
open Go.Proofs.Ytechabbdobbooaa
theorem own : ownKnob Try.prog.godebug = none := by kernel_rfl
theorem laidOut : laidOutB Try.prog = true := by kernel_rfl
set_option maxRecDepth 100000 in
theorem lifted (os : Os) (started : os.Started) (H : Type) (enc : TypeId × Value → H) :
    ReturnsInHanded {} Try.checked os 5 .any (Rows.peerTalksSpec.pre6 enc Try.prog Try.f5 Rows.peerTalksRow.domain false) (Rows.peerTalksSpec.post enc Try.prog Try.f5 false true false false) := by
  refine returnsInHanded_of_change (C := Try.checked) own started (by kernel_rfl) Try.func5
    (ChangeSpec.witness6 (enc := enc) (C := Try.checked) false ⟨#[], #[.int .u8 0, .int .u8 0, .slice none 0 0], []⟩ 8 (by kernel_rfl) (by kernel_rfl) (by kernel_rfl) (by kernel_rfl)) ?_
  intro W base args ds gs before hval0 hW hcnd _
  have hval : ∀ (j : Nat) t v, Try.f5.params[j]? = some t → args[j]? = some v → Value.okWide Try.prog W .any base t v := hval0
  have hW' := hW
  obtain ⟨p, q, hA0, hV, rfl, hfz, hnd⟩ := hW
  have hA : DataW.TrodAll enc Try.prog W 0 (fun _ => true) true Try.f5.params.toList args.toList ds p := hA0
  rw [Try.params5] at hA hval
  obtain ⟨v0, vs0, d0, ds0, p0, q0, hargs, rfl, rfl, h0, rr0⟩ := trodAll_cons hA
  obtain ⟨v1, vs1, d1, ds1, p1, q1, rfl, rfl, rfl, h1, rr1⟩ := trodAll_cons rr0
  obtain ⟨v2, vs2, d2, ds2, p2, q2, rfl, rfl, rfl, h2, rr2⟩ := trodAll_cons rr1
  obtain ⟨rfl, rfl, rfl⟩ := trodAll_nil rr2
  obtain rfl : args = #[v0, v1, v2] := by cases args; simp_all
  obtain ⟨rfl, rfl⟩ := trodVars_none hV
  have k0 := h0
  have lt0 : ∀ x ∈ p0, x.block < W.heap.size := by obtain ⟨m, hm⟩ := k0; exact DataW.trod_lt m _ _ _ hm
  have k1 := h1
  have lt1 : ∀ x ∈ p1, x.block < W.heap.size := by obtain ⟨m, hm⟩ := k1; exact DataW.trod_lt m _ _ _ hm
  have k2 := h2
  have lt2 : ∀ x ∈ p2, x.block < W.heap.size := by obtain ⟨m, hm⟩ := k2; exact DataW.trod_lt m _ _ _ hm
  obtain ⟨x0, rfl⟩ := okWide_int Try.underlying5 (hval 0 5 v0 rfl rfl)
  have g0 : (Lit.int .u8 x0).wf = true := by
    obtain ⟨fu, hf⟩ := k0
    obtain ⟨y, e1, _, e2⟩ := DataW.trod_int Try.underlying5 hf
    simp [Value.cells] at e1
    subst e1
    exact e2
  obtain ⟨x1, rfl⟩ := okWide_int Try.underlying5 (hval 1 5 v1 rfl rfl)
  have g1 : (Lit.int .u8 x1).wf = true := by
    obtain ⟨fu, hf⟩ := k1
    obtain ⟨y, e1, _, e2⟩ := DataW.trod_int Try.underlying5 hf
    simp [Value.cells] at e1
    subst e1
    exact e2
  obtain ⟨a2, len2, cap2, rfl⟩ := okWide_slice Try.underlying31 (hval 2 31 v2 rfl rfl)
  obtain ⟨l2, r2, m2, g2⟩ : ∃ l : List Int, Wk.Rd W 1 (.slice a2 len2 cap2) l.length (l.flatMap (fun z => [Value.int .u8 z])) ∧ l.length ≤ 9223372036854775807 ∧ ∀ z ∈ l, (fun z => (Lit.int .u8 z).wf = true) z := by
    obtain ⟨fu, hf⟩ := k2
    exact Wk.rd_open (fun z => [Value.int .u8 z]) 1 (fun _ => rfl) (by decide) Try.underlying31 (by kernel_rfl) hf (Wk.el_int Try.underlying5)
  clear hA0 hval0 hval
  have walk : Calls Try.prog 5 #[.int .u8 x0, .int .u8 x1, .slice a2 len2 cap2] W fun e w' => e = .returned (.bool true) ∧ Below W.heap.size W w' := by
    skip
    rw [flat1] at r2
    exact ptalks_cps _ _ _ l2 W _ (wf_u8 g0) (wf_u8 g1) r2 (fun x hx => wf_u8 (g2 x hx)) m2 fun w' hM => ⟨rfl, hM.below (Nat.le_refl _) (by simp)⟩
  refine walk.mono fun e W' ⟨he, bel⟩ => ?_
  subst he
  exact ⟨_, rfl, _, _, _, [], _, [], hW', trodAll_mk1 (shut_bool Try.underlying4 _), (trodAll_cons_mk (Below.trod laidOut (by kernel_rfl) (of_decide_eq_true (by kernel_rfl)) k0 bel lt0) (trodAll_cons_mk (Below.trod laidOut (by kernel_rfl) (of_decide_eq_true (by kernel_rfl)) k1 bel lt1) (trodAll_cons_mk (Below.trod laidOut (by kernel_rfl) (of_decide_eq_true (by kernel_rfl)) k2 bel lt2) trodAll_mk0))), rfl, bel.frame _, fun h => by cases h⟩
theorem over : Rows.peerTalksRow.holds Try.pinned (OpenSpec.ofChange Rows.peerTalksSpec) :=
  OpenClaim.holds_of_wide 5 Try.f5 rfl rfl rfl rfl rfl rfl rfl ⟨rfl, rfl, rfl, rfl, rfl⟩ rfl rfl rfl rfl rfl (by kernel_rfl) Try.func5 (by kernel_rfl)
    (of_decide_eq_true (by kernel_rfl)) (by unfold Func.isWrapper; first | (rw [if_pos (by decide +kernel)]; kernel_rfl) | (rw [if_neg (by decide +kernel)]; exact ⟨rfl, rfl⟩))
    (fun os started H enc _ => lifted os started H enc)
theorem proved : Rows.PeerTalksSaid := over
#print axioms proved
end Go.Proofs.Ytechabbdobbooaa.peerTalks
