/- What is proved: for every input the law PartKeeps (chapter 23) returns true, and each argument reads behind the call as it read before. No condition. -/
import Derived.Test.YtpcilobbohokcaaRows
import Derived.Test.YtpcilobbohokcaaPkpRd
import Derived.Test.YtpcilobbohokcaaPkpParJ
import Derived.ProofKit
import Derived.OpenShut
import Derived.ShutString
import Derived.ChangeOld
import Derived.Below
set_option linter.unusedVariables false
set_option linter.unusedSimpArgs false
namespace Go.Proofs.Ytpcilobbohokcaa.partKeeps
open Go.ChangeShapes Go.WideShapes Go.ChangeAt Go.RowKit Go.Wk
open Go.Proofs.Ytpcilobbohokcaa
theorem own : ownKnob Try.prog.godebug = none := by kernel_rfl
theorem laidOut : laidOutB Try.prog = true := by kernel_rfl
set_option maxRecDepth 100000 in
theorem lifted (os : Os) (started : os.Started) (H : Type) (enc : TypeId × Value → H) :
    ReturnsInHanded {} Try.checked os 6 .any (Rows.partKeepsSpec.pre6 enc Try.prog Try.f6 Rows.partKeepsRow.domain false) (Rows.partKeepsSpec.post enc Try.prog Try.f6 false true false false) := by
  refine returnsInHanded_of_change (C := Try.checked) own started (by kernel_rfl) Try.func6
    (ChangeSpec.witness6 (enc := enc) (C := Try.checked) false ⟨#[], #[.agg #[.int .u8 0, .int .i64 0, .int .i64 0, .int .i64 0, .int .i64 0, .slice none 0 0, .string ByteArray.empty, .bool false, .string ByteArray.empty], .int .i64 0, .string ByteArray.empty, .slice none 0 0], []⟩ 8 (by kernel_rfl) (by kernel_rfl) (by kernel_rfl) (by kernel_rfl)) ?_
  intro W base args ds gs before hval0 hW hcnd _
  have hval : ∀ (j : Nat) t v, Try.f6.params[j]? = some t → args[j]? = some v → Value.okWide Try.prog W .any base t v := hval0
  have hW' := hW
  obtain ⟨p, q, hA0, hV, rfl, hfz, hnd⟩ := hW
  have hA : DataW.TrodAll enc Try.prog W 0 (fun _ => true) true Try.f6.params.toList args.toList ds p := hA0
  rw [Try.params6] at hA hval
  obtain ⟨v0, vs0, d0, ds0, p0, q0, hargs, rfl, rfl, h0, rr0⟩ := trodAll_cons hA
  obtain ⟨v1, vs1, d1, ds1, p1, q1, rfl, rfl, rfl, h1, rr1⟩ := trodAll_cons rr0
  obtain ⟨v2, vs2, d2, ds2, p2, q2, rfl, rfl, rfl, h2, rr2⟩ := trodAll_cons rr1
  obtain ⟨v3, vs3, d3, ds3, p3, q3, rfl, rfl, rfl, h3, rr3⟩ := trodAll_cons rr2
  obtain ⟨rfl, rfl, rfl⟩ := trodAll_nil rr3
  obtain rfl : args = #[v0, v1, v2, v3] := by cases args; simp_all
  obtain ⟨rfl, rfl⟩ := trodVars_none hV
  have k0 := h0
  have lt0 : ∀ x ∈ p0, x.block < W.heap.size := by obtain ⟨m, hm⟩ := k0; exact DataW.trod_lt m _ _ _ hm
  have k1 := h1
  have lt1 : ∀ x ∈ p1, x.block < W.heap.size := by obtain ⟨m, hm⟩ := k1; exact DataW.trod_lt m _ _ _ hm
  have k2 := h2
  have lt2 : ∀ x ∈ p2, x.block < W.heap.size := by obtain ⟨m, hm⟩ := k2; exact DataW.trod_lt m _ _ _ hm
  have k3 := h3
  have lt3 : ∀ x ∈ p3, x.block < W.heap.size := by obtain ⟨m, hm⟩ := k3; exact DataW.trod_lt m _ _ _ hm
  obtain ⟨cs0, rfl, cz0⟩ := okWide_struct Try.underlying42 (hval 0 42 v0 rfl rfl)
  obtain ⟨x0, ex0, g0⟩ : ∃ z : (Msg × Value), cs0.toList = (fun q : Msg × Value => msgC q.1 q.2) z ∧ (fun q : Msg × Value => MsgIn W q.1 q.2) z := by
    obtain ⟨fu, hf⟩ := k0
    exact (fun h => by obtain ⟨m, sa, e, g⟩ := msg_el _ _ _ h; exact ⟨(m, sa), e, g⟩) hf
  obtain rfl : cs0 = ((fun q : Msg × Value => msgC q.1 q.2) x0).toArray := by rw [← ex0, Array.toArray_toList]
  obtain ⟨x1, rfl⟩ := okWide_int Try.underlying3 (hval 1 3 v1 rfl rfl)
  have g1 : (Lit.int .i64 x1).wf = true := by
    obtain ⟨fu, hf⟩ := k1
    obtain ⟨y, e1, _, e2⟩ := DataW.trod_int Try.underlying3 hf
    simp [Value.cells] at e1
    subst e1
    exact e2
  obtain ⟨x2, rfl⟩ := okWide_string Try.underlying9 (hval 2 9 v2 rfl rfl)
  have g2 : x2.size ≤ maxLen := by
    obtain ⟨fu, hf⟩ := k2
    obtain ⟨y, e1, _, e2⟩ := DataW.trod_string Try.underlying9 hf
    simp [Value.cells] at e1
    subst e1
    exact e2
  obtain ⟨a3, len3, cap3, rfl⟩ := okWide_slice Try.underlying61 (hval 3 61 v3 rfl rfl)
  obtain ⟨l3, r3, m3, g3⟩ : ∃ l : List Sp, Wk.Rd W 4 (.slice a3 len3 cap3) l.length (l.flatMap spC) ∧ l.length ≤ 9223372036854775807 ∧ ∀ z ∈ l, (fun z : Sp => z.d < 256 ∧ z.tag.length ≤ maxLen ∧ I64 z.now) z := by
    obtain ⟨fu, hf⟩ := k3
    exact Wk.rd_open spC 4 (fun _ => rfl) (by decide) Try.underlying61 (by kernel_rfl) hf sp_el
  clear hA0 hval0 hval
  have walk : Calls Try.prog 6 #[.agg ((fun q : Msg × Value => msgC q.1 q.2) x0).toArray, .int .i64 x1, .string x2, .slice a3 len3 cap3] W fun e w' => e = .returned (.bool true) ∧ Below W.heap.size W w' := by
    skip
    have es : ∀ z : ByteArray, Value.string z = strV z.data.toList := fun z => by cases z; simp [strV]
    rw [es x2]
    exact keeps_cps x0.1 x0.2 x1 x2.data.toList (.slice a3 len3 cap3) l3 W g2 g0 r3 m3 g3 _ fun w' hM => ⟨rfl, hM.below (Nat.le_refl _) (by simp)⟩
  refine walk.mono fun e W' ⟨he, bel⟩ => ?_
  subst he
  exact ⟨_, rfl, _, _, _, [], _, [], hW', trodAll_mk1 (shut_bool Try.underlying4 _), (trodAll_cons_mk (Below.trod laidOut (by kernel_rfl) (of_decide_eq_true (by kernel_rfl)) k0 bel lt0) (trodAll_cons_mk (Below.trod laidOut (by kernel_rfl) (of_decide_eq_true (by kernel_rfl)) k1 bel lt1) (trodAll_cons_mk (Below.trod laidOut (by kernel_rfl) (of_decide_eq_true (by kernel_rfl)) k2 bel lt2) (trodAll_cons_mk (Below.trod laidOut (by kernel_rfl) (of_decide_eq_true (by kernel_rfl)) k3 bel lt3) trodAll_mk0)))), rfl, bel.frame _, fun h => by cases h⟩
theorem over : Rows.partKeepsRow.holds Try.pinned (OpenSpec.ofChange Rows.partKeepsSpec) :=
  OpenClaim.holds_of_wide 6 Try.f6 rfl rfl rfl rfl rfl rfl rfl ⟨rfl, rfl, rfl, rfl, rfl⟩ rfl rfl rfl rfl rfl (by kernel_rfl) Try.func6 (by kernel_rfl)
    (of_decide_eq_true (by kernel_rfl)) (by unfold Func.isWrapper; first | (rw [if_pos (by decide +kernel)]; kernel_rfl) | (rw [if_neg (by decide +kernel)]; exact ⟨rfl, rfl⟩))
    (fun os started H enc _ => lifted os started H enc)
theorem proved : Rows.PartKeepsSaid := over
#print axioms proved
end Go.Proofs.Ytpcilobbohokcaa.partKeeps
