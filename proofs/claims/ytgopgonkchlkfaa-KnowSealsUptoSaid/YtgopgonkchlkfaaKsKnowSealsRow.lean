/- What is proved: for every input of bulk at most 1048576 the law KnowSeals (chapter 10) returns true, and each argument reads behind the call as it read before. No further condition. -/
import Derived.Test.YtgopgonkchlkfaaRows
import Derived.Test.YtgopgonkchlkfaaKsRd
import Derived.Test.YtgopgonkchlkfaaKsUpt
import Derived.Test.YtgopgonkchlkfaaKsSls3
import Derived.Test.YtgopgonkchlkfaaKsFrgE
import Derived.ProofKit
import Derived.OpenShut
import Derived.ShutString
import Derived.ChangeOld
import Derived.Below
import Derived.JoinedCond
set_option linter.unusedVariables false
set_option linter.unusedSimpArgs false
namespace Go.Proofs.Ytgopgonkchlkfaa.knowSeals
open Go.ChangeShapes Go.WideShapes Go.ChangeAt Go.RowKit Go.Wk
open Go.Proofs.Ytgopgonkchlkfaa
theorem own : ownKnob Try.prog.godebug = none := by kernel_rfl
theorem laidOut : laidOutB Try.prog = true := by kernel_rfl
set_option maxRecDepth 100000 in
theorem lifted (os : Os) (started : os.Started) (H : Type) (enc : TypeId × Value → H) (F : Stop.Interp) :
    ReturnsInHanded {} Try.checked os 11 .any ((Rows.OpenSpec.upto Rows.knowSealsSpec).pre6 enc Try.prog Try.f11 Rows.knowSealsUptoRow.domain false) (((Rows.OpenSpec.upto Rows.knowSealsSpec).at F).post enc Try.prog Try.f11 false true false false) := by
  refine returnsInHanded_of_cond (C := Try.checked) (s := Rows.OpenSpec.upto Rows.knowSealsSpec) (k := Rows.uptoSmall) rfl own started (by kernel_rfl) Try.func11
    (OpenSpec.witness (enc := enc) (C := Try.checked) (s := Rows.OpenSpec.upto Rows.knowSealsSpec) (k := Rows.uptoSmall) rfl false ⟨#[], #[.slice none 0 0, .string ByteArray.empty, .string ByteArray.empty, .slice none 0 0, .slice none 0 0], []⟩ 8 (by kernel_rfl) (by kernel_rfl) (by kernel_rfl) (x := ([.nil, .lit (.string []), .lit (.string []), .nil, .nil], [], [])) (by kernel_rfl) rfl (by kernel_rfl)) ?_
  intro W base args ds gs before hval0 hW hcnd hk _
  have hval : ∀ (j : Nat) t v, Try.f11.params[j]? = some t → args[j]? = some v → Value.okWide Try.prog W .any base t v := hval0
  have hW' := hW
  obtain ⟨p, q, hA0, hV, rfl, hfz, hnd⟩ := hW
  have hA : DataW.TrodAll enc Try.prog W 0 (fun _ => true) true Try.f11.params.toList args.toList ds p := hA0
  rw [Try.params11] at hA hval
  obtain ⟨v0, vs0, d0, ds0, p0, q0, hargs, rfl, rfl, h0, rr0⟩ := trodAll_cons hA
  obtain ⟨v1, vs1, d1, ds1, p1, q1, rfl, rfl, rfl, h1, rr1⟩ := trodAll_cons rr0
  obtain ⟨v2, vs2, d2, ds2, p2, q2, rfl, rfl, rfl, h2, rr2⟩ := trodAll_cons rr1
  obtain ⟨v3, vs3, d3, ds3, p3, q3, rfl, rfl, rfl, h3, rr3⟩ := trodAll_cons rr2
  obtain ⟨v4, vs4, d4, ds4, p4, q4, rfl, rfl, rfl, h4, rr4⟩ := trodAll_cons rr3
  obtain ⟨rfl, rfl, rfl⟩ := trodAll_nil rr4
  obtain rfl : args = #[v0, v1, v2, v3, v4] := by cases args; simp_all
  obtain ⟨rfl, rfl⟩ := trodVars_none hV
  have k0 := h0
  have lt0 : ∀ x ∈ p0, x.block < W.heap.size := by obtain ⟨m, hm⟩ := k0; exact DataW.trod_lt m _ _ _ hm
  have k1 := h1
  have lt1 : ∀ x ∈ p1, x.block < W.heap.size := by obtain ⟨m, hm⟩ := k1; exact DataW.trod_lt m _ _ _ hm
  have k2 := h2
  have lt2 : ∀ x ∈ p2, x.block < W.heap.size := by obtain ⟨m, hm⟩ := k2; exact DataW.trod_lt m _ _ _ hm
  have k3 := h3
  have lt3 : ∀ x ∈ p3, x.block < W.heap.size := by obtain ⟨m, hm⟩ := k3; exact DataW.trod_lt m _ _ _ hm
  have k4 := h4
  have lt4 : ∀ x ∈ p4, x.block < W.heap.size := by obtain ⟨m, hm⟩ := k4; exact DataW.trod_lt m _ _ _ hm
  obtain ⟨a0, len0, cap0, rfl⟩ := okWide_slice Try.underlying22 (hval 0 22 v0 rfl rfl)
  obtain ⟨l0, r0, m0, g0⟩ : ∃ l : List ByteArray, Wk.Rd W 1 (.slice a0 len0 cap0) l.length (l.flatMap (fun z => [Value.string z])) ∧ l.length ≤ 9223372036854775807 ∧ ∀ z ∈ l, (fun z => z.size ≤ maxLen) z := by
    obtain ⟨fu, hf⟩ := k0
    exact Wk.rd_open (fun z => [Value.string z]) 1 (fun _ => rfl) (by decide) Try.underlying22 (by kernel_rfl) hf (Wk.el_string Try.underlying9)
  obtain ⟨x1, rfl⟩ := okWide_string Try.underlying9 (hval 1 9 v1 rfl rfl)
  have g1 : x1.size ≤ maxLen := by
    obtain ⟨fu, hf⟩ := k1
    obtain ⟨y, e1, _, e2⟩ := DataW.trod_string Try.underlying9 hf
    simp [Value.cells] at e1
    subst e1
    exact e2
  obtain ⟨x2, rfl⟩ := okWide_string Try.underlying9 (hval 2 9 v2 rfl rfl)
  have g2 : x2.size ≤ maxLen := by
    obtain ⟨fu, hf⟩ := k2
    obtain ⟨y, e1, _, e2⟩ := DataW.trod_string Try.underlying9 hf
    simp [Value.cells] at e1
    subst e1
    exact e2
  obtain ⟨a3, len3, cap3, rfl⟩ := okWide_slice Try.underlying22 (hval 3 22 v3 rfl rfl)
  obtain ⟨l3, r3, m3, g3⟩ : ∃ l : List ByteArray, Wk.Rd W 1 (.slice a3 len3 cap3) l.length (l.flatMap (fun z => [Value.string z])) ∧ l.length ≤ 9223372036854775807 ∧ ∀ z ∈ l, (fun z => z.size ≤ maxLen) z := by
    obtain ⟨fu, hf⟩ := k3
    exact Wk.rd_open (fun z => [Value.string z]) 1 (fun _ => rfl) (by decide) Try.underlying22 (by kernel_rfl) hf (Wk.el_string Try.underlying9)
  obtain ⟨a4, len4, cap4, rfl⟩ := okWide_slice Try.underlying65 (hval 4 65 v4 rfl rfl)
  obtain ⟨l4, r4, m4, g4⟩ : ∃ l : List Int, Wk.Rd W 1 (.slice a4 len4 cap4) l.length (l.flatMap (fun z => [Value.int .u8 z])) ∧ l.length ≤ 9223372036854775807 ∧ ∀ z ∈ l, (fun z => (Lit.int .u8 z).wf = true) z := by
    obtain ⟨fu, hf⟩ := k4
    exact Wk.rd_open (fun z => [Value.int .u8 z]) 1 (fun _ => rfl) (by decide) Try.underlying65 (by kernel_rfl) hf (Wk.el_int Try.underlying5)
  have hk1 : Rows.uptoSmall H [d0, d1, d2, d3, d4] = true := by simpa only [List.append_nil] using hk
  have hbk : Rows.uptoBulkAll [d0, d1, d2, d3, d4] ≤ 1048576 := of_decide_eq_true hk1
  have u0 : len0 ≤ 1048576 := by
    obtain ⟨fu, hf⟩ := k0
    have : len0 ≤ Rows.uptoBulk d0 := blk_slice Try.underlying22 hf
    simp only [Rows.uptoBulkAll] at hbk
    omega
  have u3 : len3 ≤ 1048576 := by
    obtain ⟨fu, hf⟩ := k3
    have : len3 ≤ Rows.uptoBulk d3 := blk_slice Try.underlying22 hf
    simp only [Rows.uptoBulkAll] at hbk
    omega
  have u4 : len4 ≤ 1048576 := by
    obtain ⟨fu, hf⟩ := k4
    have : len4 ≤ Rows.uptoBulk d4 := blk_slice Try.underlying65 hf
    simp only [Rows.uptoBulkAll] at hbk
    omega
  clear hA0 hval0 hval
  have walk : Calls Try.prog 11 #[.slice a0 len0 cap0, .string x1, .string x2, .slice a3 len3 cap3, .slice a4 len4 cap4] W fun e w' => e = .returned (.bool true) ∧ Below W.heap.size W w' := by
    skip
    have es : ∀ z : ByteArray, Value.string z = strV z.data.toList := fun z => by cases z; simp [strV]
    have e0 : len0 = l0.length := by obtain ⟨_, _, e⟩ := r0.slice; rw [Value.slice.injEq] at e; exact e.2.1
    have e3 : len3 = l3.length := by obtain ⟨_, _, e⟩ := r3.slice; rw [Value.slice.injEq] at e; exact e.2.1
    rw [flat1] at r0 r3 r4
    rw [es x1, es x2]
    have e4 : l4.map (fun z => Value.int .u8 z) = (l4.map Int.toNat).map fun d : Nat => Value.int .u8 d := by
      rw [List.map_map]
      refine List.map_congr_left fun z hz => ?_
      have := wf_u8 (g4 z hz)
      simp only [Function.comp]
      rw [show ((z.toNat : Nat) : Int) = z by omega]
    have hd4 : ∀ d ∈ l4.map Int.toNat, d < 256 := by
      intro d hd
      obtain ⟨z, hz, rfl⟩ := List.mem_map.1 hd
      have := wf_u8 (g4 z hz)
      omega
    rw [e4] at r4
    exact seals_cps _ _ _ (l0.map fun z => z.data.toList) (l3.map fun z => z.data.toList) (l4.map Int.toNat) x1.data.toList x2.data.toList W _ (rdB r0) (smB g0) (by rw [List.length_map]; exact m0) (rdB r3) (smB g3) (by rw [List.length_map]; exact m3) (by rw [List.length_map]; exact r4) hd4 (by rw [List.length_map]; exact m4) g1 g2 (by rw [List.length_map, List.length_map]; omega) fun w' hM => ⟨rfl, hM.below (Nat.le_refl _) (by simp)⟩
  refine walk.mono fun e W' ⟨he, bel⟩ => ?_
  subst he
  exact ⟨_, rfl, _, _, _, [], _, [], hW', trodAll_mk1 (shut_bool Try.underlying4 _), (trodAll_cons_mk (Below.trod laidOut (by kernel_rfl) (of_decide_eq_true (by kernel_rfl)) k0 bel lt0) (trodAll_cons_mk (Below.trod laidOut (by kernel_rfl) (of_decide_eq_true (by kernel_rfl)) k1 bel lt1) (trodAll_cons_mk (Below.trod laidOut (by kernel_rfl) (of_decide_eq_true (by kernel_rfl)) k2 bel lt2) (trodAll_cons_mk (Below.trod laidOut (by kernel_rfl) (of_decide_eq_true (by kernel_rfl)) k3 bel lt3) (trodAll_cons_mk (Below.trod laidOut (by kernel_rfl) (of_decide_eq_true (by kernel_rfl)) k4 bel lt4) trodAll_mk0))))), rfl, bel.frame _, fun h => by cases h⟩
theorem over : Rows.knowSealsUptoRow.holds Try.pinned (Rows.OpenSpec.upto Rows.knowSealsSpec) :=
  OpenClaim.holds_of_cond 11 Try.f11 rfl rfl rfl rfl rfl rfl rfl ⟨rfl, rfl, rfl, rfl, rfl⟩ rfl rfl rfl rfl rfl (by kernel_rfl) Try.func11 (by kernel_rfl)
    (of_decide_eq_true (by kernel_rfl)) (by unfold Func.isWrapper; first | (rw [if_pos (by decide +kernel)]; kernel_rfl) | (rw [if_neg (by decide +kernel)]; exact ⟨rfl, rfl⟩))
    (fun os started H enc _ F => lifted os started H enc F)
theorem proved : Rows.KnowSealsUptoSaid := over
#print axioms proved
end Go.Proofs.Ytgopgonkchlkfaa.knowSeals
