/- What is proved: for every input the law LinkTrue (chapter 21) returns true, and each argument reads behind the call as it read before; the listed package variable is tied to the program's text. No further condition. -/
import Derived.Test.YtcikecociiebkaaGreatDoorRows
import Derived.Test.YtcikecociiebkaaGreatDoorQbRd
import Derived.Test.YtcikecociiebkaaGreatDoorCards
import Derived.Test.YtcikecociiebkaaGreatDoorTie
import Derived.Test.YtcikecociiebkaaGreatDoorQbZ14
import Derived.LaidMore
import Derived.Stop.Joined
import Derived.SevenTiedAt
import Derived.ChangeArms
import Derived.OpenShut
import Derived.ProofKit
import Derived.ShutString
import Derived.ChangeOld
import Derived.Below
set_option linter.unusedVariables false
set_option linter.unusedSimpArgs false
namespace Go.Proofs.YtcikecociiebkaaGreatDoor.linkTrue
open Go.ChangeShapes Go.WideShapes Go.ChangeAt Go.RowKit Go.Wk
open Go.Proofs.YtcikecociiebkaaGreatDoor
theorem own : ownKnob Tryz.prog.godebug = none := by kernel_rfl
theorem laidOut : laidOutB Tryz.prog = true := by kernel_rfl
theorem list3 {α : Type} {s : List α} (h : s.length = 3) : ∃ a b c, s = [a, b, c] := by
  match s, h with
  | [a, b, c], _ => exact ⟨a, b, c, rfl⟩
def laidL : List (String × DataW Unit) := [("chirograph/keys.letters", Rows.laid_chirograph_keys_letters)]
theorem gLet : Tryz.prog.globalNamed "chirograph/keys.letters" = some 0 := by kernel_rfl
theorem tLet : (Tryz.prog.globals[0]?).map (·.type) = some 165 := by kernel_rfl
theorem door_met (os : Os) (args : Array Value) : laidMetH Tryz.prog laidL ((World.doorLaid Tryz.prog 400 os).forCall (fun _ _ => 0) ⟨#[], args, []⟩).memory := laidMetH_of_parts3 (fuel := 8) (laidMet_of_run' 8 (by kernel_rfl) (by kernel_rfl)) (by kernel_rfl) (by kernel_rfl)
set_option maxRecDepth 100000 in
theorem of_laid {W : World} (h : laidMetH Tryz.prog laidL W) : KG W := by
  rw [MakeChecks.laidMetH_plain _ _ _ (by kernel_rfl)] at h
  obtain ⟨ps, ⟨g0, t0, cs0, f0, p0, q0, hg0, ht0, hv0, hd0, _, _⟩, _, _⟩ := h
  obtain rfl := Option.some.inj (gLet.symm.trans hg0)
  obtain rfl := Option.some.inj (tLet.symm.trans ht0)
  obtain ⟨xs, m1, rfl, hx1, hlen, hn3, hel⟩ := DataW.trod_array Tryz.underlying165 hd0
  have c9 : Tryz.prog.cellsOf 9 = 1 := by kernel_rfl
  have c63 : Tryz.prog.cellsOf 165 = 3 := by kernel_rfl
  have h0 := hel 0 (by decide)
  have h1 := hel 1 (by decide)
  have h2 := hel 2 (by decide)
  simp only [Prod.mk.injEq, DataW.agg.injEq, Rows.laid_chirograph_keys_letters] at hx1
  match xs, hn3, hx1, h0, h1, h2 with
  | [x0, x1, x2], _, hx1, h0, h1, h2 =>
    simp only [List.map_cons, List.map_nil, List.cons.injEq] at hx1
    obtain ⟨s1, e1, y1, _⟩ := DataW.trod_string Tryz.underlying9 (show DataW.trod _ Tryz.prog W 0 _ false m1 9 _ = some x1 from h1)
    obtain ⟨s2, e2, y2, _⟩ := DataW.trod_string Tryz.underlying9 (show DataW.trod _ Tryz.prog W 0 _ false m1 9 _ = some x2 from h2)
    have q1 : s1.data.toList = [107] := by have := hx1.1.2.1; rw [y1] at this; simpa using this.symm
    have q2 : s2.data.toList = [115] := by have := hx1.1.2.2.1; rw [y2] at this; simpa using this.symm
    have r1 : s1 = ⟨#[107]⟩ := by cases s1; exact congrArg ByteArray.mk (Array.toList_inj.mp q1)
    have r2 : s2 = ⟨#[115]⟩ := by cases s2; exact congrArg ByteArray.mk (Array.toList_inj.mp q2)
    subst r1 r2
    have v1 := World.var?_cell hg0 hv0 1
    have v2 := World.var?_cell hg0 hv0 2
    obtain ⟨l⟩ := cs0
    rw [c63] at hlen
    rw [c9] at e1 e2
    have hl3 : l.length = 3 := hlen
    obtain ⟨a, b, c, rfl⟩ := list3 hl3
    obtain rfl : b = .string ⟨#[107]⟩ := (List.cons.inj (show [b] = [_] from e1)).1
    obtain rfl : c = .string ⟨#[115]⟩ := (List.cons.inj (show [c] = [_] from e2)).1
    exact ⟨v1, v2⟩
set_option maxRecDepth 100000 in
theorem lifted (os : Os) (started : os.Started) (H : Type) (enc : TypeId × Value → H) :
    ReturnsInHanded {} Tryz.checked os 4 .any (fun w args => (Rows.linkTrueSpec.pre enc Tryz.prog Tryz.f4 [] false w args ∧ laidMetH Tryz.prog laidL w) ∧ sizedMet enc Tryz.prog Tryz.f4 (OpenSpec.ofChange Rows.linkTrueSpec) false w args) (Rows.linkTrueSpec.post enc Tryz.prog Tryz.f4 false true false false) := by
  refine returnsInHanded_of_change_and (C := Tryz.checked) (X := fun w _ => laidMetH Tryz.prog laidL w) (fun _ _ _ hh h => h.of_heap hh) own started (by kernel_rfl) Tryz.func4
    (ChangeSpec.witness_shaped (enc := enc) (C := Tryz.checked) (os := os) (X := fun w _ => laidMetH Tryz.prog laidL w) false (World.doorLaid Tryz.prog 400 os) #[.slice none 0 0, .int .u8 0, .string ByteArray.empty] 8 rfl (World.shaped_of_RefB (by kernel_rfl) (by kernel_rfl)) (by kernel_rfl) (by kernel_rfl) (by kernel_rfl) (door_met os _)) ?_
  intro W base args ds gs before hval0 hW _ _ hL _
  have hg := of_laid hL
  have hval : ∀ (j : Nat) t v, Tryz.f4.params[j]? = some t → args[j]? = some v → Value.okWide Tryz.prog W .any base t v := hval0
  have hW' := hW
  obtain ⟨p, q, hA0, hV, rfl, hfz, hnd⟩ := hW
  have hA : DataW.TrodAll enc Tryz.prog W 0 (fun _ => true) true Tryz.f4.params.toList args.toList ds p := hA0
  rw [Tryz.params4] at hA hval
  obtain ⟨v0, vs0, d0, ds0, p0, q0, hargs, rfl, rfl, h0, rr0⟩ := trodAll_cons hA
  obtain ⟨v1, vs1, d1, ds1, p1, q1, rfl, rfl, rfl, h1, rr1⟩ := trodAll_cons rr0
  obtain ⟨v2, vs2, d2, ds2, p2, q2, rfl, rfl, rfl, h2, rr2⟩ := trodAll_cons rr1
  obtain ⟨rfl, rfl, rfl⟩ := trodAll_nil rr2
  obtain rfl : args = #[v0, v1, v2] := by cases args; simp_all
  obtain ⟨rfl, rfl⟩ := trodVars_none hV
  have k0 := h0
  have lt0 : ∀ x ∈ p0, x.block < W.heap.size := by obtain ⟨m, hm⟩ := k0; exact DataW.trod_lt m _ _ _ hm
  have k1 := h1
  have lt1 : ∀ x ∈ p1, x.block < W.heap.size := by obtain ⟨m, hm⟩ := k1; exact DataW.trod_lt m _ _ _ hm
  have k2 := h2
  have lt2 : ∀ x ∈ p2, x.block < W.heap.size := by obtain ⟨m, hm⟩ := k2; exact DataW.trod_lt m _ _ _ hm
  obtain ⟨a0, len0, cap0, rfl⟩ := okWide_slice Tryz.underlying22 (hval 0 22 v0 rfl rfl)
  obtain ⟨l0, r0, m0, g0⟩ : ∃ l : List ByteArray, Wk.Rd W 1 (.slice a0 len0 cap0) l.length (l.flatMap (fun z => [Value.string z])) ∧ l.length ≤ 9223372036854775807 ∧ ∀ z ∈ l, (fun z => z.size ≤ maxLen) z := by
    obtain ⟨fu, hf⟩ := k0
    exact Wk.rd_open (fun z => [Value.string z]) 1 (fun _ => rfl) (by decide) Tryz.underlying22 (by kernel_rfl) hf (Wk.el_string Tryz.underlying9)
  obtain ⟨x1, rfl⟩ := okWide_int Tryz.underlying5 (hval 1 5 v1 rfl rfl)
  have g1 : (Lit.int .u8 x1).wf = true := by
    obtain ⟨fu, hf⟩ := k1
    obtain ⟨y, e1, _, e2⟩ := DataW.trod_int Tryz.underlying5 hf
    simp [Value.cells] at e1
    subst e1
    exact e2
  obtain ⟨x2, rfl⟩ := okWide_string Tryz.underlying9 (hval 2 9 v2 rfl rfl)
  have g2 : x2.size ≤ maxLen := by
    obtain ⟨fu, hf⟩ := k2
    obtain ⟨y, e1, _, e2⟩ := DataW.trod_string Tryz.underlying9 hf
    simp [Value.cells] at e1
    subst e1
    exact e2
  clear hA0 hval0 hval
  have walk : Calls Tryz.prog 4 #[.slice a0 len0 cap0, .int .u8 x1, .string x2] W fun e w' => e = .returned (.bool true) ∧ Below W.heap.size W w' := by
    skip
    have es : ∀ z : ByteArray, Value.string z = strV z.data.toList := fun z => by cases z; simp [strV]
    rw [flat1] at r0
    rw [es x2]
    obtain ⟨h1, h2⟩ := wf_u8 g1
    obtain ⟨d, rfl⟩ : ∃ d : Nat, x1 = (d : Int) := ⟨x1.toNat, by omega⟩
    exact true21_cps _ (l0.map fun z => z.data.toList) d x2.data.toList W hg (by omega) (by rw [List.length_map]; exact m0) (smBr g0) (rdBr r0) g2 _ fun w' hM => ⟨rfl, hM.below (Nat.le_refl _) (by simp)⟩
  refine walk.mono fun e W' ⟨he, bel⟩ => ?_
  subst he
  exact ⟨_, rfl, _, _, _, [], _, [], hW', trodAll_mk1 (shut_bool Tryz.underlying4 _), (trodAll_cons_mk (Below.trod laidOut (by kernel_rfl) (of_decide_eq_true (by kernel_rfl)) k0 bel lt0) (trodAll_cons_mk (Below.trod laidOut (by kernel_rfl) (of_decide_eq_true (by kernel_rfl)) k1 bel lt1) (trodAll_cons_mk (Below.trod laidOut (by kernel_rfl) (of_decide_eq_true (by kernel_rfl)) k2 bel lt2) trodAll_mk0))), rfl, bel.frame _, fun h => by cases h⟩
theorem over : Rows.linkTrueRow.holds Tryz.pinned (OpenSpec.ofChange Rows.linkTrueSpec) :=
  OpenClaim.holds_of_wide 4 Tryz.f4 rfl rfl rfl rfl rfl rfl rfl ⟨rfl, rfl, rfl, rfl, rfl⟩ rfl rfl rfl rfl rfl (by kernel_rfl) Tryz.func4 (by kernel_rfl)
    (of_decide_eq_true (by kernel_rfl)) (by unfold Func.isWrapper; first | (rw [if_pos (by decide +kernel)]; kernel_rfl) | (rw [if_neg (by decide +kernel)]; exact ⟨rfl, rfl⟩))
    (fun os started H enc _ => lifted os started H enc)
set_option maxRecDepth 100000 in
theorem proved : Rows.LinkTrueCardSaid :=
  Claim7.holds_tied_plain_at .later [] [.data] true (true, "b5b8b4b9d96727520e86a467762fccff150fbbe4bda9ffae28007b448c94167d") true
    over (fun _ h => by cases h) (by kernel_rfl) (fun _ h => by cases h) linkTrue_row_tie rfl ⟨rfl, rfl⟩ (by kernel_rfl) rfl
    (fun f fn hf hfn => by
      obtain rfl : f = 4 := Option.some.inj ((show Tryz.prog.funcNamed "chirograph/chirographlaw21.LinkTrue" = some 4 by kernel_rfl).symm.trans hf) |>.symm
      obtain rfl : fn = Tryz.f4 := (Option.some.inj (Tryz.func4.symm.trans hfn)).symm
      exact ⟨by kernel_rfl, fun j t ht => by
        rw [Tryz.params4] at ht
        have hm : t ∈ [22, 5, 9] := by simpa using Array.mem_of_getElem? ht
        have hall : ([22, 5, 9].all fun u => !Tryz.prog.wantsStandIn u) = true := by kernel_rfl
        exact (show Tryz.prog.wantsStandIn t = false by simpa using List.all_eq_true.1 hall t hm)⟩)
    (by kernel_rfl)
#print axioms proved
end Go.Proofs.YtcikecociiebkaaGreatDoor.linkTrue
