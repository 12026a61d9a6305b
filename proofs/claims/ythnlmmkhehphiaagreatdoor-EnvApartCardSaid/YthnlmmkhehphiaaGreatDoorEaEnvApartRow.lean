/- What is proved: for every input the law EnvApart (chapter 20) returns true, and each argument reads behind the call as it read before; the listed package variable is tied to the program's text. No further condition. -/
import Derived.Test.YthnlmmkhehphiaaGreatDoorRows
import Derived.Test.YthnlmmkhehphiaaGreatDoorEaRd
import Derived.Test.YthnlmmkhehphiaaGreatDoorCards
import Derived.Test.YthnlmmkhehphiaaGreatDoorTie
import Derived.Test.YthnlmmkhehphiaaGreatDoorEaEnvE
import Derived.Test.YthnlmmkhehphiaaGreatDoorEaBal8
import Derived.LaidMore
import Derived.Stop.Joined
import Derived.SevenTiedAt
import Derived.ChangeArms
import Derived.OpenShut
import Derived.ProofKit
import Derived.ShutString
import Derived.ChangeOld
import Derived.Below
set_option linter.unusedVariables false
set_option linter.unusedSimpArgs false
namespace Go.Proofs.YthnlmmkhehphiaaGreatDoor.envApart
open Go.ChangeShapes Go.WideShapes Go.ChangeAt Go.RowKit Go.Wk
open Go.Proofs.YthnlmmkhehphiaaGreatDoor
theorem own : ownKnob Tryz.prog.godebug = none := by kernel_rfl
theorem laidOut : laidOutB Tryz.prog = true := by kernel_rfl
theorem list3 {α : Type} {s : List α} (h : s.length = 3) : ∃ a b c, s = [a, b, c] := by
  match s, h with
  | [a, b, c], _ => exact ⟨a, b, c, rfl⟩
def laidL : List (String × DataW Unit) := [("chirograph/keys.letters", Rows.laid_chirograph_keys_letters)]
theorem gLet : Tryz.prog.globalNamed "chirograph/keys.letters" = some 0 := by kernel_rfl
theorem tLet : (Tryz.prog.globals[0]?).map (·.type) = some 149 := by kernel_rfl
theorem door_met (os : Os) (args : Array Value) : laidMetH Tryz.prog laidL ((World.doorLaid Tryz.prog 400 os).forCall (fun _ _ => 0) ⟨#[], args, []⟩).memory := laidMetH_of_parts3 (fuel := 8) (laidMet_of_run' 8 (by kernel_rfl) (by kernel_rfl)) (by kernel_rfl) (by kernel_rfl)
set_option maxRecDepth 100000 in
theorem of_laid {W : World} (h : laidMetH Tryz.prog laidL W) : KG W := by
  rw [MakeChecks.laidMetH_plain _ _ _ (by kernel_rfl)] at h
  obtain ⟨ps, ⟨g0, t0, cs0, f0, p0, q0, hg0, ht0, hv0, hd0, _, _⟩, _, _⟩ := h
  obtain rfl := Option.some.inj (gLet.symm.trans hg0)
  obtain rfl := Option.some.inj (tLet.symm.trans ht0)
  obtain ⟨xs, m1, rfl, hx1, hlen, hn3, hel⟩ := DataW.trod_array Tryz.underlying149 hd0
  have c9 : Tryz.prog.cellsOf 9 = 1 := by kernel_rfl
  have c63 : Tryz.prog.cellsOf 149 = 3 := by kernel_rfl
  have h0 := hel 0 (by decide)
  have h1 := hel 1 (by decide)
  have h2 := hel 2 (by decide)
  simp only [Prod.mk.injEq, DataW.agg.injEq, Rows.laid_chirograph_keys_letters] at hx1
  match xs, hn3, hx1, h0, h1, h2 with
  | [x0, x1, x2], _, hx1, h0, h1, h2 =>
    simp only [List.map_cons, List.map_nil, List.cons.injEq] at hx1
    obtain ⟨s1, e1, y1, _⟩ := DataW.trod_string Tryz.underlying9 (show DataW.trod _ Tryz.prog W 0 _ false m1 9 _ = some x1 from h1)
    obtain ⟨s2, e2, y2, _⟩ := DataW.trod_string Tryz.underlying9 (show DataW.trod _ Tryz.prog W 0 _ false m1 9 _ = some x2 from h2)
    have q1 : s1.data.toList = [107] := by have := hx1.1.2.1; rw [y1] at this; simpa using this.symm
    have q2 : s2.data.toList = [115] := by have := hx1.1.2.2.1; rw [y2] at this; simpa using this.symm
    have r1 : s1 = ⟨#[107]⟩ := by cases s1; exact congrArg ByteArray.mk (Array.toList_inj.mp q1)
    have r2 : s2 = ⟨#[115]⟩ := by cases s2; exact congrArg ByteArray.mk (Array.toList_inj.mp q2)
    subst r1 r2
    have v1 := World.var?_cell hg0 hv0 1
    have v2 := World.var?_cell hg0 hv0 2
    obtain ⟨l⟩ := cs0
    rw [c63] at hlen
    rw [c9] at e1 e2
    have hl3 : l.length = 3 := hlen
    obtain ⟨a, b, c, rfl⟩ := list3 hl3
    obtain rfl : b = .string ⟨#[107]⟩ := (List.cons.inj (show [b] = [_] from e1)).1
    obtain rfl : c = .string ⟨#[115]⟩ := (List.cons.inj (show [c] = [_] from e2)).1
    exact ⟨v1, v2⟩
set_option maxRecDepth 100000 in
theorem lifted (os : Os) (started : os.Started) (H : Type) (enc : TypeId × Value → H) :
    ReturnsInHanded {} Tryz.checked os 7 .any (fun w args => (Rows.envApartSpec.pre enc Tryz.prog Tryz.f7 [] false w args ∧ laidMetH Tryz.prog laidL w) ∧ sizedMet enc Tryz.prog Tryz.f7 (OpenSpec.ofChange Rows.envApartSpec) false w args) (Rows.envApartSpec.post enc Tryz.prog Tryz.f7 false true false false) := by
  refine returnsInHanded_of_change_and (C := Tryz.checked) (X := fun w _ => laidMetH Tryz.prog laidL w) (fun _ _ _ hh h => h.of_heap hh) own started (by kernel_rfl) Tryz.func7
    (ChangeSpec.witness_shaped (enc := enc) (C := Tryz.checked) (os := os) (X := fun w _ => laidMetH Tryz.prog laidL w) false (World.doorLaid Tryz.prog 400 os) #[.agg #[.int .i64 0, .int .i64 0, .int .i64 0, .int .i64 0, .int .i64 0, .string ⟨#[]⟩, .string ⟨#[]⟩], .agg #[.int .i64 0, .int .i64 0, .int .i64 0, .int .i64 0, .int .i64 0, .string ⟨#[]⟩, .string ⟨#[]⟩], .agg #[.int .i64 0, .int .i64 0, .int .i64 0, .int .i64 0, .slice none 0 0, .int .i64 0]] 8 rfl (World.shaped_of_RefB (by kernel_rfl) (by kernel_rfl)) (by kernel_rfl) (by kernel_rfl) (by kernel_rfl) (door_met os _)) ?_
  intro W base args ds gs before hval0 hW _ _ hL _
  have hg := of_laid hL
  have hval : ∀ (j : Nat) t v, Tryz.f7.params[j]? = some t → args[j]? = some v → Value.okWide Tryz.prog W .any base t v := hval0
  have hW' := hW
  obtain ⟨p, q, hA0, hV, rfl, hfz, hnd⟩ := hW
  have hA : DataW.TrodAll enc Tryz.prog W 0 (fun _ => true) true Tryz.f7.params.toList args.toList ds p := hA0
  rw [Tryz.params7] at hA hval
  obtain ⟨v0, vs0, d0, ds0, p0, q0, hargs, rfl, rfl, h0, rr0⟩ := trodAll_cons hA
  obtain ⟨v1, vs1, d1, ds1, p1, q1, rfl, rfl, rfl, h1, rr1⟩ := trodAll_cons rr0
  obtain ⟨v2, vs2, d2, ds2, p2, q2, rfl, rfl, rfl, h2, rr2⟩ := trodAll_cons rr1
  obtain ⟨rfl, rfl, rfl⟩ := trodAll_nil rr2
  obtain rfl : args = #[v0, v1, v2] := by cases args; simp_all
  obtain ⟨rfl, rfl⟩ := trodVars_none hV
  have k0 := h0
  have lt0 : ∀ x ∈ p0, x.block < W.heap.size := by obtain ⟨m, hm⟩ := k0; exact DataW.trod_lt m _ _ _ hm
  have k1 := h1
  have lt1 : ∀ x ∈ p1, x.block < W.heap.size := by obtain ⟨m, hm⟩ := k1; exact DataW.trod_lt m _ _ _ hm
  have k2 := h2
  have lt2 : ∀ x ∈ p2, x.block < W.heap.size := by obtain ⟨m, hm⟩ := k2; exact DataW.trod_lt m _ _ _ hm
  obtain ⟨cs0, rfl, cz0⟩ := okWide_struct Tryz.underlying42 (hval 0 42 v0 rfl rfl)
  obtain ⟨x0, ex0, g0⟩ : ∃ z : Ev, cs0.toList = (fun q : Ev => evC q) z ∧ (fun q : Ev => EvIn q) z := by
    obtain ⟨fu, hf⟩ := k0
    exact (fun h => env_el _ _ _ h) hf
  obtain rfl : cs0 = ((fun q : Ev => evC q) x0).toArray := by rw [← ex0, Array.toArray_toList]
  obtain ⟨cs1, rfl, cz1⟩ := okWide_struct Tryz.underlying42 (hval 1 42 v1 rfl rfl)
  obtain ⟨x1, ex1, g1⟩ : ∃ z : Ev, cs1.toList = (fun q : Ev => evC q) z ∧ (fun q : Ev => EvIn q) z := by
    obtain ⟨fu, hf⟩ := k1
    exact (fun h => env_el _ _ _ h) hf
  obtain rfl : cs1 = ((fun q : Ev => evC q) x1).toArray := by rw [← ex1, Array.toArray_toList]
  obtain ⟨cs2, rfl, cz2⟩ := okWide_struct Tryz.underlying26 (hval 2 26 v2 rfl rfl)
  obtain ⟨x2, ex2, g2⟩ : ∃ z : ((Tx × Int × List Mb × Int) × Value), cs2.toList = (fun q : (Tx × Int × List Mb × Int) × Value => blC q.1 q.2) z ∧ (fun q : (Tx × Int × List Mb × Int) × Value => MbsIn W q.2 q.1.2.2.1) z := by
    obtain ⟨fu, hf⟩ := k2
    exact (fun h => by obtain ⟨m, sa, e, g⟩ := bal_el _ _ _ h; exact ⟨(m, sa), e, g⟩) hf
  obtain rfl : cs2 = ((fun q : (Tx × Int × List Mb × Int) × Value => blC q.1 q.2) x2).toArray := by rw [← ex2, Array.toArray_toList]
  clear hA0 hval0 hval
  have walk : Calls Tryz.prog 7 #[.agg ((fun q : Ev => evC q) x0).toArray, .agg ((fun q : Ev => evC q) x1).toArray, .agg ((fun q : (Tx × Int × List Mb × Int) × Value => blC q.1 q.2) x2).toArray] W fun e w' => e = .returned (.bool true) ∧ Below W.heap.size W w' := by
    skip
    exact apart20_cps x0 x1 x2.1.1 x2.1.2.1 x2.2 x2.1.2.2.1 x2.1.2.2.2 W g0 g1 g2 hg _ fun w' hM => ⟨rfl, hM.below (Nat.le_refl _) (by simp)⟩
  refine walk.mono fun e W' ⟨he, bel⟩ => ?_
  subst he
  exact ⟨_, rfl, _, _, _, [], _, [], hW', trodAll_mk1 (shut_bool Tryz.underlying4 _), (trodAll_cons_mk (Below.trod laidOut (by kernel_rfl) (of_decide_eq_true (by kernel_rfl)) k0 bel lt0) (trodAll_cons_mk (Below.trod laidOut (by kernel_rfl) (of_decide_eq_true (by kernel_rfl)) k1 bel lt1) (trodAll_cons_mk (Below.trod laidOut (by kernel_rfl) (of_decide_eq_true (by kernel_rfl)) k2 bel lt2) trodAll_mk0))), rfl, bel.frame _, fun h => by cases h⟩
theorem over : Rows.envApartRow.holds Tryz.pinned (OpenSpec.ofChange Rows.envApartSpec) :=
  OpenClaim.holds_of_wide 7 Tryz.f7 rfl rfl rfl rfl rfl rfl rfl ⟨rfl, rfl, rfl, rfl, rfl⟩ rfl rfl rfl rfl rfl (by kernel_rfl) Tryz.func7 (by kernel_rfl)
    (of_decide_eq_true (by kernel_rfl)) (by unfold Func.isWrapper; first | (rw [if_pos (by decide +kernel)]; kernel_rfl) | (rw [if_neg (by decide +kernel)]; exact ⟨rfl, rfl⟩))
    (fun os started H enc _ => lifted os started H enc)
set_option maxRecDepth 100000 in
theorem proved : Rows.EnvApartCardSaid :=
  Claim7.holds_tied_plain_at .later [] [.data] true (true, "489166080210084e6b943b9a8b08ebf7b553d197fae67a3cc6ecad7d94a81945") true
    over (fun _ h => by cases h) (by kernel_rfl) (fun _ h => by cases h) envApart_row_tie rfl ⟨rfl, rfl⟩ (by kernel_rfl) rfl
    (fun f fn hf hfn => by
      obtain rfl : f = 7 := Option.some.inj ((show Tryz.prog.funcNamed "chirograph/chirographlaw20.EnvApart" = some 7 by kernel_rfl).symm.trans hf) |>.symm
      obtain rfl : fn = Tryz.f7 := (Option.some.inj (Tryz.func7.symm.trans hfn)).symm
      exact ⟨by kernel_rfl, fun j t ht => by
        rw [Tryz.params7] at ht
        have hm : t ∈ [42, 42, 26] := by simpa using Array.mem_of_getElem? ht
        have hall : ([42, 42, 26].all fun u => !Tryz.prog.wantsStandIn u) = true := by kernel_rfl
        exact (show Tryz.prog.wantsStandIn t = false by simpa using List.all_eq_true.1 hall t hm)⟩)
    (by kernel_rfl)
#print axioms proved
end Go.Proofs.YthnlmmkhehphiaaGreatDoor.envApart
