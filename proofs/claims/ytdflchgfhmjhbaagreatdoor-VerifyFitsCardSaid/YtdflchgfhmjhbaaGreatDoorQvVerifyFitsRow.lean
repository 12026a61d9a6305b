/- What is proved: for every input the law VerifyFits (chapter 27) returns true, and each argument reads behind the call as it read before; the listed package variable is tied to the program's text. No further condition. -/
import Derived.Test.YtdflchgfhmjhbaaGreatDoorRows
import Derived.Test.YtdflchgfhmjhbaaGreatDoorQvRd
import Derived.Test.YtdflchgfhmjhbaaGreatDoorCards
import Derived.Test.YtdflchgfhmjhbaaGreatDoorTie
import Derived.Test.YtdflchgfhmjhbaaGreatDoorQvZ12
import Derived.LaidMore
import Derived.Stop.Joined
import Derived.SevenTiedAt
import Derived.ChangeArms
import Derived.OpenShut
import Derived.ProofKit
import Derived.ShutString
import Derived.ChangeOld
import Derived.Below
import Derived.HandedShaped
set_option linter.unusedVariables false
set_option linter.unusedSimpArgs false
namespace Go.Proofs.YtdflchgfhmjhbaaGreatDoor.verifyFits
set_option maxRecDepth 100000
open Go.ChangeShapes Go.WideShapes Go.ChangeAt Go.RowKit Go.Wk
open Go.Proofs.YtdflchgfhmjhbaaGreatDoor
theorem own : ownKnob Tryz.prog.godebug = none := by kernel_rfl
theorem laidOut : laidOutB Tryz.prog = true := by kernel_rfl
theorem list3 {α : Type} {s : List α} (h : s.length = 3) : ∃ a b c, s = [a, b, c] := by
  match s, h with
  | [a, b, c], _ => exact ⟨a, b, c, rfl⟩
def laidL : List (String × DataW Unit) := [("chirograph/keys.letters", Rows.laid_chirograph_keys_letters)]
theorem gLet : Tryz.prog.globalNamed "chirograph/keys.letters" = some 0 := by kernel_rfl
theorem tLet : (Tryz.prog.globals[0]?).map (·.type) = some 196 := by kernel_rfl
theorem door_met (os : Os) (args : Array Value) : laidMetH Tryz.prog laidL ((World.doorLaid Tryz.prog 400 os).forCall (fun _ _ => 0) ⟨#[], args, []⟩).memory := laidMetH_of_parts3 (fuel := 8) (laidMet_of_run' 8 (by kernel_rfl) (by kernel_rfl)) (by kernel_rfl) (by kernel_rfl)
theorem of_laid {W : World} (h : laidMetH Tryz.prog laidL W) : KG W := by
  rw [MakeChecks.laidMetH_plain _ _ _ (by kernel_rfl)] at h
  obtain ⟨ps, ⟨g0, t0, cs0, f0, p0, q0, hg0, ht0, hv0, hd0, _, _⟩, _, _⟩ := h
  obtain rfl := Option.some.inj (gLet.symm.trans hg0)
  obtain rfl := Option.some.inj (tLet.symm.trans ht0)
  obtain ⟨xs, m1, rfl, hx1, hlen, hn3, hel⟩ := DataW.trod_array Tryz.underlying196 hd0
  have c9 : Tryz.prog.cellsOf 9 = 1 := by kernel_rfl
  have c63 : Tryz.prog.cellsOf 196 = 3 := by kernel_rfl
  have h0 := hel 0 (by decide)
  have h1 := hel 1 (by decide)
  have h2 := hel 2 (by decide)
  simp only [Prod.mk.injEq, DataW.agg.injEq, Rows.laid_chirograph_keys_letters] at hx1
  match xs, hn3, hx1, h0, h1, h2 with
  | [x0, x1, x2], _, hx1, h0, h1, h2 =>
    simp only [List.map_cons, List.map_nil, List.cons.injEq] at hx1
    obtain ⟨s1, e1, y1, _⟩ := DataW.trod_string Tryz.underlying9 (show DataW.trod _ Tryz.prog W 0 _ false m1 9 _ = some x1 from h1)
    obtain ⟨s2, e2, y2, _⟩ := DataW.trod_string Tryz.underlying9 (show DataW.trod _ Tryz.prog W 0 _ false m1 9 _ = some x2 from h2)
    have q1 : s1.data.toList = [107] := by have := hx1.1.2.1; rw [y1] at this; simpa using this.symm
    have q2 : s2.data.toList = [115] := by have := hx1.1.2.2.1; rw [y2] at this; simpa using this.symm
    have r1 : s1 = ⟨#[107]⟩ := by cases s1; exact congrArg ByteArray.mk (Array.toList_inj.mp q1)
    have r2 : s2 = ⟨#[115]⟩ := by cases s2; exact congrArg ByteArray.mk (Array.toList_inj.mp q2)
    subst r1 r2
    have v1 := World.var?_cell hg0 hv0 1
    have v2 := World.var?_cell hg0 hv0 2
    obtain ⟨l⟩ := cs0
    rw [c63] at hlen
    rw [c9] at e1 e2
    have hl3 : l.length = 3 := hlen
    obtain ⟨a, b, c, rfl⟩ := list3 hl3
    obtain rfl : b = .string ⟨#[107]⟩ := (List.cons.inj (show [b] = [_] from e1)).1
    obtain rfl : c = .string ⟨#[115]⟩ := (List.cons.inj (show [c] = [_] from e2)).1
    exact ⟨v1, v2⟩
theorem lifted (os : Os) (started : os.Started) (H : Type) (enc : TypeId × Value → H) :
    ReturnsInHanded {} Tryz.checked os 3 .any (fun w args => (Rows.verifyFitsSpec.pre enc Tryz.prog Tryz.f3 [] false w args ∧ laidMetH Tryz.prog laidL w) ∧ sizedMet enc Tryz.prog Tryz.f3 (OpenSpec.ofChange Rows.verifyFitsSpec) false w args) (Rows.verifyFitsSpec.post enc Tryz.prog Tryz.f3 false true false false) := by
  refine retShaped (C := Tryz.checked) (X := fun w _ => laidMetH Tryz.prog laidL w) (fun _ _ _ hh h => h.of_heap hh) own started (by kernel_rfl) Tryz.func3
    (ChangeSpec.witness_shaped (enc := enc) (C := Tryz.checked) (os := os) (X := fun w _ => laidMetH Tryz.prog laidL w) false (World.doorLaid Tryz.prog 400 os) #[.int .u8 0, .string ByteArray.empty, .agg #[.int .i64 0, .int .i64 0, .int .i64 0, .int .i64 0, .slice none 0 0, .slice none 0 0], .bool false, .int .i64 0] 8 rfl (World.shaped_of_RefB (by kernel_rfl) (by kernel_rfl)) (by kernel_rfl) (by kernel_rfl) (by kernel_rfl) (door_met os _)) ?_
  intro W base args ds gs before hval0 hW hL hS
  have hg := of_laid hL
  have hval : ∀ (j : Nat) t v, Tryz.f3.params[j]? = some t → args[j]? = some v → Value.okWide Tryz.prog W .any base t v := hval0
  have hW' := hW
  obtain ⟨p, q, hA0, hV, rfl, hfz, hnd⟩ := hW
  have hA : DataW.TrodAll enc Tryz.prog W 0 (fun _ => true) true Tryz.f3.params.toList args.toList ds p := hA0
  rw [Tryz.params3] at hA hval
  obtain ⟨v0, vs0, d0, ds0, p0, q0, hargs, rfl, rfl, h0, rr0⟩ := trodAll_cons hA
  obtain ⟨v1, vs1, d1, ds1, p1, q1, rfl, rfl, rfl, h1, rr1⟩ := trodAll_cons rr0
  obtain ⟨v2, vs2, d2, ds2, p2, q2, rfl, rfl, rfl, h2, rr2⟩ := trodAll_cons rr1
  obtain ⟨v3, vs3, d3, ds3, p3, q3, rfl, rfl, rfl, h3, rr3⟩ := trodAll_cons rr2
  obtain ⟨v4, vs4, d4, ds4, p4, q4, rfl, rfl, rfl, h4, rr4⟩ := trodAll_cons rr3
  obtain ⟨rfl, rfl, rfl⟩ := trodAll_nil rr4
  obtain rfl : args = #[v0, v1, v2, v3, v4] := by cases args; simp_all
  obtain ⟨rfl, rfl⟩ := trodVars_none hV
  have k0 := h0
  have lt0 : ∀ x ∈ p0, x.block < W.heap.size := by obtain ⟨m, hm⟩ := k0; exact DataW.trod_lt m _ _ _ hm
  have k1 := h1
  have lt1 : ∀ x ∈ p1, x.block < W.heap.size := by obtain ⟨m, hm⟩ := k1; exact DataW.trod_lt m _ _ _ hm
  have k2 := h2
  have lt2 : ∀ x ∈ p2, x.block < W.heap.size := by obtain ⟨m, hm⟩ := k2; exact DataW.trod_lt m _ _ _ hm
  have k3 := h3
  have lt3 : ∀ x ∈ p3, x.block < W.heap.size := by obtain ⟨m, hm⟩ := k3; exact DataW.trod_lt m _ _ _ hm
  have k4 := h4
  have lt4 : ∀ x ∈ p4, x.block < W.heap.size := by obtain ⟨m, hm⟩ := k4; exact DataW.trod_lt m _ _ _ hm
  obtain ⟨x0, rfl⟩ := okWide_int Tryz.underlying5 (hval 0 5 v0 rfl rfl)
  have g0 : (Lit.int .u8 x0).wf = true := by
    obtain ⟨fu, hf⟩ := k0
    obtain ⟨y, e1, _, e2⟩ := DataW.trod_int Tryz.underlying5 hf
    simp [Value.cells] at e1
    subst e1
    exact e2
  obtain ⟨x1, rfl⟩ := okWide_string Tryz.underlying9 (hval 1 9 v1 rfl rfl)
  have g1 : x1.size ≤ maxLen := by
    obtain ⟨fu, hf⟩ := k1
    obtain ⟨y, e1, _, e2⟩ := DataW.trod_string Tryz.underlying9 hf
    simp [Value.cells] at e1
    subst e1
    exact e2
  obtain ⟨cs2, rfl, cz2⟩ := okWide_struct Tryz.underlying27 (hval 2 27 v2 rfl rfl)
  obtain ⟨x2, ex2, g2⟩ : ∃ z : (Rcp × Value × Value), cs2.toList = (fun q : Rcp × Value × Value => rcC q.1 q.2.1 q.2.2) z ∧ (fun q : Rcp × Value × Value => RcpArg W q.1 q.2.1 q.2.2) z := by
    obtain ⟨fu, hf⟩ := k2
    exact (fun h => by obtain ⟨m, sa, sb, e, g⟩ := rcp_el _ _ _ h; exact ⟨(m, sa, sb), e, g⟩) hf
  obtain rfl : cs2 = ((fun q : Rcp × Value × Value => rcC q.1 q.2.1 q.2.2) x2).toArray := by rw [← ex2, Array.toArray_toList]
  obtain ⟨x3, rfl⟩ := okWide_bool Tryz.underlying4 (hval 3 4 v3 rfl rfl)
  obtain ⟨x4, rfl⟩ := okWide_int Tryz.underlying3 (hval 4 3 v4 rfl rfl)
  have g4 : (Lit.int .i64 x4).wf = true := by
    obtain ⟨fu, hf⟩ := k4
    obtain ⟨y, e1, _, e2⟩ := DataW.trod_int Tryz.underlying3 hf
    simp [Value.cells] at e1
    subst e1
    exact e2
  clear hA0 hval0 hval
  have walk : Calls Tryz.prog 3 #[.int .u8 x0, .string x1, .agg ((fun q : Rcp × Value × Value => rcC q.1 q.2.1 q.2.2) x2).toArray, .bool x3, .int .i64 x4] W fun e w' => e = .returned (.bool true) ∧ Below W.heap.size W w' := by
    skip
    obtain ⟨kt, hK⟩ := ktab_of hS
    have es : ∀ z : ByteArray, Value.string z = strV z.data.toList := fun z => by cases z; simp [strV]
    have g0 := wf_u8 g0
    obtain ⟨z0, rfl⟩ := Int.eq_ofNat_of_zero_le (a := x0) (by omega)
    rw [es x1]
    exact fits27_cps kt z0 (by omega) x1.data.toList g1 x2.1 x2.2.1 x2.2.2 x3 x4 W g2 hg hK _ fun w' hM => ⟨rfl, hM.below (Nat.le_refl _) (by simp)⟩
  refine walk.mono fun e W' ⟨he, bel⟩ => ?_
  subst he
  exact ⟨_, rfl, _, _, _, [], _, [], hW', trodAll_mk1 (shut_bool Tryz.underlying4 _), (trodAll_cons_mk (Below.trod laidOut (by kernel_rfl) (of_decide_eq_true (by kernel_rfl)) k0 bel lt0) (trodAll_cons_mk (Below.trod laidOut (by kernel_rfl) (of_decide_eq_true (by kernel_rfl)) k1 bel lt1) (trodAll_cons_mk (Below.trod laidOut (by kernel_rfl) (of_decide_eq_true (by kernel_rfl)) k2 bel lt2) (trodAll_cons_mk (Below.trod laidOut (by kernel_rfl) (of_decide_eq_true (by kernel_rfl)) k3 bel lt3) (trodAll_cons_mk (Below.trod laidOut (by kernel_rfl) (of_decide_eq_true (by kernel_rfl)) k4 bel lt4) trodAll_mk0))))), rfl, bel.frame _, fun h => by cases h⟩
theorem over : Rows.verifyFitsRow.holds Tryz.pinned (OpenSpec.ofChange Rows.verifyFitsSpec) :=
  OpenClaim.holds_of_wide 3 Tryz.f3 rfl rfl rfl rfl rfl rfl rfl ⟨rfl, rfl, rfl, rfl, rfl⟩ rfl rfl rfl rfl rfl (by kernel_rfl) Tryz.func3 (by kernel_rfl)
    (of_decide_eq_true (by kernel_rfl)) (by unfold Func.isWrapper; first | (rw [if_pos (by decide +kernel)]; kernel_rfl) | (rw [if_neg (by decide +kernel)]; exact ⟨rfl, rfl⟩))
    (fun os started H enc _ => lifted os started H enc)
theorem proved : Rows.VerifyFitsCardSaid :=
  Claim7.holds_tied_plain_at .later [] [.data] true (true, "44086fa3127027469a3f02564ca63b6b4842f237a7348b24f9bec721d76380b8") true
    over (fun _ h => by cases h) (by kernel_rfl) (fun _ h => by cases h) verifyFits_row_tie rfl ⟨rfl, rfl⟩ (by kernel_rfl) rfl
    (fun f fn hf hfn => by
      obtain rfl : f = 3 := Option.some.inj ((show Tryz.prog.funcNamed "chirograph/chirographlaw27.VerifyFits" = some 3 by kernel_rfl).symm.trans hf) |>.symm
      obtain rfl : fn = Tryz.f3 := (Option.some.inj (Tryz.func3.symm.trans hfn)).symm
      exact ⟨by kernel_rfl, fun j t ht => by
        rw [Tryz.params3] at ht
        have hm : t ∈ [5, 9, 27, 4, 3] := by simpa using Array.mem_of_getElem? ht
        have hall : ([5, 9, 27, 4, 3].all fun u => !Tryz.prog.wantsStandIn u) = true := by kernel_rfl
        exact (show Tryz.prog.wantsStandIn t = false by simpa using List.all_eq_true.1 hall t hm)⟩)
    (by kernel_rfl)
#print axioms proved
end Go.Proofs.YtdflchgfhmjhbaaGreatDoor.verifyFits
