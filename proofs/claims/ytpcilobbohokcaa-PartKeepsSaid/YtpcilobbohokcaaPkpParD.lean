/-
  part: what its functions return, in one; Long; a transaction at a member that comes in (walks).
-/
import Derived.Test.YtpcilobbohokcaaPkpParA
import Derived.Test.YtpcilobbohokcaaPkpRefG
import Derived.Test.YtpcilobbohokcaaPkpRefC
import Derived.Test.YtpcilobbohokcaaPkpW4
import Derived.Test.YtpcilobbohokcaaPkpW2
set_option linter.unusedSimpArgs false
set_option linter.unusedVariables false
namespace Go.Proofs.Ytpcilobbohokcaa
open Go Go.Wk Go.RowKit
attribute [local irreducible] go Hold
open Go.Lib
def ptN : Pt := ⟨(0, 0, 0), 0, [], 0, [], 0, [], 0⟩
def resQ : Except Int Pt → Pt
  | .ok q => q
  | .error _ => ptN
def resC : Except Int Pt → Int
  | .ok _ => 0
  | .error c => c
def newE (m : Msg) (k : Nat) (org : Int) (body : List UInt8) : Except Int Pt := if (prB m k && mayPt (newP m org body)) = true then .ok (newP m org body) else .error 2
theorem pVote_u (p : Pt) (ms : Value) (yes : Bool) (t : List UInt8) (ht : t.length ≤ maxLen) (w : World) (h : PtIn w p ms) (R : Ending → World → Prop) (hR : ∀ cv w', w'.ownsRow w.heap.size 59 2 cv (resQ (voteE p yes t)).mbs.length ((resQ (voteE p yes t)).mbs.flatMap mbC) → Mod [] w w' → R (.returned (.tuple #[ptV (resQ (voteE p yes t)) cv, .int .i64 (resC (voteE p yes t))])) w') : Calls Try.prog 66 #[ptV p ms, .bool yes, .string ⟨t.toArray⟩] w R :=
  pVote_cps p ms yes t ht w h R (fun q cv w' hq ho hM => by have := hR cv w'; rw [hq] at this; exact this ho hM) (fun c w' hq hM => by have := hR (.slice none 0 0) w'; rw [hq] at this; exact this (World.ownsRow_nil _ _ _ _) hM)
theorem pMark_u (p : Pt) (ms : Value) (now : Int) (w : World) (h : PtIn w p ms) (R : Ending → World → Prop) (hR : ∀ cv w', w'.ownsRow w.heap.size 59 2 cv (resQ (markE p now)).mbs.length ((resQ (markE p now)).mbs.flatMap mbC) → Mod [] w w' → R (.returned (.tuple #[ptV (resQ (markE p now)) cv, .int .i64 (resC (markE p now))])) w') : Calls Try.prog 71 #[ptV p ms, .int .i64 now] w R :=
  pMark_cps p ms now w h R (fun q cv w' hq ho hM => by have := hR cv w'; rw [hq] at this; exact this ho hM) (fun c w' hq hM => by have := hR (.slice none 0 0) w'; rw [hq] at this; exact this (World.ownsRow_nil _ _ _ _) hM)
theorem pLearn_u (p : Pt) (ms : Value) (cm : Bool) (w : World) (h : PtIn w p ms) (R : Ending → World → Prop) (hR : ∀ cv w', w'.ownsRow w.heap.size 59 2 cv (resQ (learnE p cm)).mbs.length ((resQ (learnE p cm)).mbs.flatMap mbC) → Mod [] w w' → R (.returned (.tuple #[ptV (resQ (learnE p cm)) cv, .int .i64 (resC (learnE p cm))])) w') : Calls Try.prog 65 #[ptV p ms, .bool cm] w R :=
  pLearn_cps p ms cm w h R (fun q cv w' hq ho hM => by have := hR cv w'; rw [hq] at this; exact this ho hM) (fun c w' hq hM => by have := hR (.slice none 0 0) w'; rw [hq] at this; exact this (World.ownsRow_nil _ _ _ _) hM)
theorem pNew_u (m : Msg) (k : Nat) (sa : Value) (org : Int) (body : List UInt8) (hb : body.length ≤ maxLen) (w : World) (h : MgIn w m k sa) (R : Ending → World → Prop) (hR : ∀ cv w', w'.ownsRow w.heap.size 59 2 cv (resQ (newE m k org body)).mbs.length ((resQ (newE m k org body)).mbs.flatMap mbC) → Mod [] w w' → R (.returned (.tuple #[ptV (resQ (newE m k org body)) cv, .int .i64 (resC (newE m k org body))])) w') : Calls Try.prog 27 #[msgV m sa, .int .i64 org, .string ⟨body.toArray⟩] w R := by
  unfold newE at hR
  refine pNew_cps m k sa org body hb w h R (fun cv w' h1 h2 ho hM => ?_) (fun h0 w' hM => ?_)
  · have := hR cv w'
    rw [h1, h2] at this
    exact this ho hM
  · have := hR (.slice none 0 0) w'
    rw [h0] at this
    exact this (World.ownsRow_nil _ _ _ _) hM
/-- What is known of one that comes in. -/
structure PtArg (w : World) (p : Pt) (ms : Value) : Prop where
  st : p.st < 256
  sent : I64 p.sent
  mbs : MbsIn w ms p.mbs
  body : p.body.length ≤ maxLen
  tag : p.tag.length ≤ maxLen
def longPt (p : Pt) : Bool := longB p.mbs || decide (20000 < p.body.length) || decide (20000 < p.tag.length)
theorem longB_is {l : List Mb} (h : longB l = false) : l.length ≤ 20 ∧ ∀ x ∈ l, x.2.length ≤ 20000 := by
  unfold longB at h
  simp only [Bool.or_eq_false_iff] at h
  refine ⟨by have := of_decide_eq_false h.1; omega, fun x hx => ?_⟩
  have := List.any_eq_false.1 h.2 x hx
  simp only [decide_eq_true_eq] at this
  omega
theorem PtArg.in {w : World} {p : Pt} {ms : Value} (h : PtArg w p ms) (hl : longPt p = false) : PtIn w p ms := by
  unfold longPt at hl
  simp only [Bool.or_eq_false_iff] at hl
  have := longB_is hl.1.1
  exact ⟨h.st, h.sent, by omega, h.mbs.dig, h.mbs.rd, h.body, h.tag⟩
theorem PtArg.mod {w w' : World} {p : Pt} {ms : Value} (h : PtArg w p ms) (hM : Mod [] w w') : PtArg w' p ms := ⟨h.st, h.sent, ⟨h.mbs.rd.mod hM (by simp), h.mbs.len, h.mbs.dig, h.mbs.org⟩, h.body, h.tag⟩
section
variable {H : Type} {enc : TypeId × Value → H} {w : World} {base : Nat} {spare : Nat → Bool} {held : Bool}
end
end Go.Proofs.Ytpcilobbohokcaa
