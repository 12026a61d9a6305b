/- What is proved: for every input the law ReceiptBack (chapter 26) returns true, and each argument reads behind the call as it read before. No condition. -/
import Derived.Test.YtpcilobbohokcaaRows
import Derived.Test.YtpcilobbohokcaaRd
import Derived.Test.YtpcilobbohokcaaRcpD
import Derived.ProofKit
import Derived.OpenShut
import Derived.ShutString
import Derived.ChangeOld
import Derived.Below
set_option linter.unusedVariables false
set_option linter.unusedSimpArgs false
namespace Go.Proofs.Ytpcilobbohokcaa.receiptBack
open Go.ChangeShapes Go.WideShapes Go.ChangeAt Go.RowKit Go.Wk
open Go.Proofs.Ytpcilobbohokcaa
theorem own : ownKnob Try.prog.godebug = none := by kernel_rfl
theorem laidOut : laidOutB Try.prog = true := by kernel_rfl
set_option maxRecDepth 100000 in
theorem lifted (os : Os) (started : os.Started) (H : Type) (enc : TypeId × Value → H) :
    ReturnsInHanded {} Try.checked os 3 .any (Rows.receiptBackSpec.pre6 enc Try.prog Try.f3 Rows.receiptBackRow.domain false) (Rows.receiptBackSpec.post enc Try.prog Try.f3 false true false false) := by
  refine returnsInHanded_of_change (C := Try.checked) own started (by kernel_rfl) Try.func3
    (ChangeSpec.witness6 (enc := enc) (C := Try.checked) false ⟨#[], #[.string ByteArray.empty, .agg #[.int .i64 0, .int .i64 0, .int .i64 0, .int .i64 0, .slice none 0 0, .slice none 0 0], .agg #[.int .i64 0, .int .i64 0, .int .i64 0, .int .i64 0, .slice none 0 0, .slice none 0 0], .string ByteArray.empty, .int .u16 0], []⟩ 8 (by kernel_rfl) (by kernel_rfl) (by kernel_rfl) (by kernel_rfl)) ?_
  intro W base args ds gs before hval0 hW hcnd _
  have hval : ∀ (j : Nat) t v, Try.f3.params[j]? = some t → args[j]? = some v → Value.okWide Try.prog W .any base t v := hval0
  have hW' := hW
  obtain ⟨p, q, hA0, hV, rfl, hfz, hnd⟩ := hW
  have hA : DataW.TrodAll enc Try.prog W 0 (fun _ => true) true Try.f3.params.toList args.toList ds p := hA0
  rw [Try.params3] at hA hval
  obtain ⟨v0, vs0, d0, ds0, p0, q0, hargs, rfl, rfl, h0, rr0⟩ := trodAll_cons hA
  obtain ⟨v1, vs1, d1, ds1, p1, q1, rfl, rfl, rfl, h1, rr1⟩ := trodAll_cons rr0
  obtain ⟨v2, vs2, d2, ds2, p2, q2, rfl, rfl, rfl, h2, rr2⟩ := trodAll_cons rr1
  obtain ⟨v3, vs3, d3, ds3, p3, q3, rfl, rfl, rfl, h3, rr3⟩ := trodAll_cons rr2
  obtain ⟨v4, vs4, d4, ds4, p4, q4, rfl, rfl, rfl, h4, rr4⟩ := trodAll_cons rr3
  obtain ⟨rfl, rfl, rfl⟩ := trodAll_nil rr4
  obtain rfl : args = #[v0, v1, v2, v3, v4] := by cases args; simp_all
  obtain ⟨rfl, rfl⟩ := trodVars_none hV
  have k0 := h0
  have lt0 : ∀ x ∈ p0, x.block < W.heap.size := by obtain ⟨m, hm⟩ := k0; exact DataW.trod_lt m _ _ _ hm
  have k1 := h1
  have lt1 : ∀ x ∈ p1, x.block < W.heap.size := by obtain ⟨m, hm⟩ := k1; exact DataW.trod_lt m _ _ _ hm
  have k2 := h2
  have lt2 : ∀ x ∈ p2, x.block < W.heap.size := by obtain ⟨m, hm⟩ := k2; exact DataW.trod_lt m _ _ _ hm
  have k3 := h3
  have lt3 : ∀ x ∈ p3, x.block < W.heap.size := by obtain ⟨m, hm⟩ := k3; exact DataW.trod_lt m _ _ _ hm
  have k4 := h4
  have lt4 : ∀ x ∈ p4, x.block < W.heap.size := by obtain ⟨m, hm⟩ := k4; exact DataW.trod_lt m _ _ _ hm
  obtain ⟨x0, rfl⟩ := okWide_string Try.underlying9 (hval 0 9 v0 rfl rfl)
  have g0 : x0.size ≤ maxLen := by
    obtain ⟨fu, hf⟩ := k0
    obtain ⟨y, e1, _, e2⟩ := DataW.trod_string Try.underlying9 hf
    simp [Value.cells] at e1
    subst e1
    exact e2
  obtain ⟨cs1, rfl, cz1⟩ := okWide_struct Try.underlying27 (hval 1 27 v1 rfl rfl)
  obtain ⟨x1, ex1, g1⟩ : ∃ z : (Rcp × Value × Value), cs1.toList = (fun q : Rcp × Value × Value => rcC q.1 q.2.1 q.2.2) z ∧ (fun q : Rcp × Value × Value => RcpArg W q.1 q.2.1 q.2.2) z := by
    obtain ⟨fu, hf⟩ := k1
    exact (fun h => by obtain ⟨m, sa, sb, e, g⟩ := rcp_el _ _ _ h; exact ⟨(m, sa, sb), e, g⟩) hf
  obtain rfl : cs1 = ((fun q : Rcp × Value × Value => rcC q.1 q.2.1 q.2.2) x1).toArray := by rw [← ex1, Array.toArray_toList]
  obtain ⟨cs2, rfl, cz2⟩ := okWide_struct Try.underlying27 (hval 2 27 v2 rfl rfl)
  obtain ⟨x2, ex2, g2⟩ : ∃ z : (Rcp × Value × Value), cs2.toList = (fun q : Rcp × Value × Value => rcC q.1 q.2.1 q.2.2) z ∧ (fun q : Rcp × Value × Value => RcpArg W q.1 q.2.1 q.2.2) z := by
    obtain ⟨fu, hf⟩ := k2
    exact (fun h => by obtain ⟨m, sa, sb, e, g⟩ := rcp_el _ _ _ h; exact ⟨(m, sa, sb), e, g⟩) hf
  obtain rfl : cs2 = ((fun q : Rcp × Value × Value => rcC q.1 q.2.1 q.2.2) x2).toArray := by rw [← ex2, Array.toArray_toList]
  obtain ⟨x3, rfl⟩ := okWide_string Try.underlying9 (hval 3 9 v3 rfl rfl)
  have g3 : x3.size ≤ maxLen := by
    obtain ⟨fu, hf⟩ := k3
    obtain ⟨y, e1, _, e2⟩ := DataW.trod_string Try.underlying9 hf
    simp [Value.cells] at e1
    subst e1
    exact e2
  obtain ⟨x4, rfl⟩ := okWide_int Try.underlying28 (hval 4 28 v4 rfl rfl)
  have g4 : (Lit.int .u16 x4).wf = true := by
    obtain ⟨fu, hf⟩ := k4
    obtain ⟨y, e1, _, e2⟩ := DataW.trod_int Try.underlying28 hf
    simp [Value.cells] at e1
    subst e1
    exact e2
  clear hA0 hval0 hval
  have walk : Calls Try.prog 3 #[.string x0, .agg ((fun q : Rcp × Value × Value => rcC q.1 q.2.1 q.2.2) x1).toArray, .agg ((fun q : Rcp × Value × Value => rcC q.1 q.2.1 q.2.2) x2).toArray, .string x3, .int .u16 x4] W fun e w' => e = .returned (.bool true) ∧ Below W.heap.size W w' := by
    skip
    have es : ∀ z : ByteArray, Value.string z = strV z.data.toList := fun z => by cases z; simp [strV]
    rw [es x0, es x3]
    have q4 := g4
    have hq : 0 ≤ x4 ∧ x4 ≤ 65535 := by
      have h : (decide (IntKind.u16.min ≤ x4) && decide (x4 ≤ IntKind.u16.max)) = true := g4
      simp only [Bool.and_eq_true, decide_eq_true_eq] at h
      exact h
    obtain ⟨c, rfl⟩ : ∃ c : Nat, x4 = c := ⟨x4.toNat, by omega⟩
    exact rback_cps x0.data.toList x1.1 x2.1 x1.2.1 x1.2.2 x2.2.1 x2.2.2 x3.data.toList c W _ g0 g3 (by omega) g1 g2 fun w' hM => ⟨rfl, hM.below (Nat.le_refl _) (by simp)⟩
  refine walk.mono fun e W' ⟨he, bel⟩ => ?_
  subst he
  exact ⟨_, rfl, _, _, _, [], _, [], hW', trodAll_mk1 (shut_bool Try.underlying4 _), (trodAll_cons_mk (Below.trod laidOut (by kernel_rfl) (of_decide_eq_true (by kernel_rfl)) k0 bel lt0) (trodAll_cons_mk (Below.trod laidOut (by kernel_rfl) (of_decide_eq_true (by kernel_rfl)) k1 bel lt1) (trodAll_cons_mk (Below.trod laidOut (by kernel_rfl) (of_decide_eq_true (by kernel_rfl)) k2 bel lt2) (trodAll_cons_mk (Below.trod laidOut (by kernel_rfl) (of_decide_eq_true (by kernel_rfl)) k3 bel lt3) (trodAll_cons_mk (Below.trod laidOut (by kernel_rfl) (of_decide_eq_true (by kernel_rfl)) k4 bel lt4) trodAll_mk0))))), rfl, bel.frame _, fun h => by cases h⟩
theorem over : Rows.receiptBackRow.holds Try.pinned (OpenSpec.ofChange Rows.receiptBackSpec) :=
  OpenClaim.holds_of_wide 3 Try.f3 rfl rfl rfl rfl rfl rfl rfl ⟨rfl, rfl, rfl, rfl, rfl⟩ rfl rfl rfl rfl rfl (by kernel_rfl) Try.func3 (by kernel_rfl)
    (of_decide_eq_true (by kernel_rfl)) (by unfold Func.isWrapper; first | (rw [if_pos (by decide +kernel)]; kernel_rfl) | (rw [if_neg (by decide +kernel)]; exact ⟨rfl, rfl⟩))
    (fun os started H enc _ => lifted os started H enc)
theorem proved : Rows.ReceiptBackSaid := over
#print axioms proved
end Go.Proofs.Ytpcilobbohokcaa.receiptBack
