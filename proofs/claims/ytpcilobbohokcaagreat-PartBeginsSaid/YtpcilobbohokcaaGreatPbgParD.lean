/-
  part: what its functions return, in one; Long; a transaction at a member that comes in (walks).
-/
import Derived.Test.YtpcilobbohokcaaGreatPbgParC
import Derived.Test.YtpcilobbohokcaaGreatPbgW4
import Derived.Test.YtpcilobbohokcaaGreatPbgW2
set_option linter.unusedSimpArgs false
set_option linter.unusedVariables false
set_option maxRecDepth 20000
namespace Go.Proofs.YtpcilobbohokcaaGreat
open Go Go.Wk Go.RowKit
attribute [local irreducible] go Hold
open Go.Lib
def ptN : Pt := ⟨(0, 0, 0), 0, [], 0, [], 0, [], 0⟩
def resQ : Except Int Pt → Pt
  | .ok q => q
  | .error _ => ptN
def resC : Except Int Pt → Int
  | .ok _ => 0
  | .error c => c
def newE (m : Msg) (k : Nat) (org : Int) (body : List UInt8) : Except Int Pt := if (prB m k && mayPt (newP m org body)) = true then .ok (newP m org body) else .error 2
/-- The ballot of a transaction, if it may be. -/
def balE (p : Pt) : (Tx × Int × List Mb × Int) × Bool := if mayPt p = true then ((p.tx, p.aud, p.mbs, p.org), true) else (((0, 0, 0), 0, [], 0), false)
theorem pVote_u (p : Pt) (ms : Value) (yes : Bool) (t : List UInt8) (ht : t.length ≤ maxLen) (w : World) (h : PtIn w p ms) (R : Ending → World → Prop) (hR : ∀ cv w', w'.ownsRow w.heap.size 126 2 cv (resQ (voteE p yes t)).mbs.length ((resQ (voteE p yes t)).mbs.flatMap mbC) → Mod [] w w' → R (.returned (.tuple #[ptV (resQ (voteE p yes t)) cv, .int .i64 (resC (voteE p yes t))])) w') : Calls Tryz.prog 54 #[ptV p ms, .bool yes, .string ⟨t.toArray⟩] w R :=
  pVote_cps p ms yes t ht w h R (fun q cv w' hq ho hM => by have := hR cv w'; rw [hq] at this; exact this ho hM) (fun c w' hq hM => by have := hR (.slice none 0 0) w'; rw [hq] at this; exact this (World.ownsRow_nil _ _ _ _) hM)
theorem pLearn_u (p : Pt) (ms : Value) (cm : Bool) (w : World) (h : PtIn w p ms) (R : Ending → World → Prop) (hR : ∀ cv w', w'.ownsRow w.heap.size 126 2 cv (resQ (learnE p cm)).mbs.length ((resQ (learnE p cm)).mbs.flatMap mbC) → Mod [] w w' → R (.returned (.tuple #[ptV (resQ (learnE p cm)) cv, .int .i64 (resC (learnE p cm))])) w') : Calls Tryz.prog 56 #[ptV p ms, .bool cm] w R :=
  pLearn_cps p ms cm w h R (fun q cv w' hq ho hM => by have := hR cv w'; rw [hq] at this; exact this ho hM) (fun c w' hq hM => by have := hR (.slice none 0 0) w'; rw [hq] at this; exact this (World.ownsRow_nil _ _ _ _) hM)
theorem pNew_u (m : Msg) (k : Nat) (sa : Value) (org : Int) (body : List UInt8) (hb : body.length ≤ maxLen) (w : World) (h : MgIn w m k sa) (R : Ending → World → Prop) (hR : ∀ cv w', w'.ownsRow w.heap.size 126 2 cv (resQ (newE m k org body)).mbs.length ((resQ (newE m k org body)).mbs.flatMap mbC) → Mod [] w w' → R (.returned (.tuple #[ptV (resQ (newE m k org body)) cv, .int .i64 (resC (newE m k org body))])) w') : Calls Tryz.prog 66 #[msgV m sa, .int .i64 org, .string ⟨body.toArray⟩] w R := by
  unfold newE at hR
  refine pNew_cps m k sa org body hb w h R (fun cv w' h1 h2 ho hM => ?_) (fun h0 w' hM => ?_)
  · have := hR cv w'
    rw [h1, h2] at this
    exact this ho hM
  · have := hR (.slice none 0 0) w'
    rw [h0] at this
    exact this (World.ownsRow_nil _ _ _ _) hM
theorem pBallot_u (p : Pt) (ms : Value) (w : World) (h : PtIn w p ms) (R : Ending → World → Prop) (hR : ∀ cv w', w'.ownsRow w.heap.size 126 2 cv (balE p).1.2.2.1.length ((balE p).1.2.2.1.flatMap mbC) → Mod [] w w' → R (.returned (.tuple #[balV (balE p).1.1 (balE p).1.2.1 cv (balE p).1.2.2.2, .bool (balE p).2])) w') : Calls Tryz.prog 68 #[ptV p ms] w R := by
  unfold balE at hR
  refine pBallot_cps p ms w h R (fun cv w' h1 ho hM => ?_) (fun h0 w' hM => ?_)
  · have := hR cv w'
    rw [if_pos h1] at this
    exact this ho hM
  · have := hR (.slice none 0 0) w'
    rw [if_neg (by rw [h0]; simp)] at this
    exact this (World.ownsRow_nil _ _ _ _) hM
theorem rNew_u (m : Msg) (k : Nat) (sa : Value) (org : Int) (body : List UInt8) (hb : body.length ≤ maxLen) (w : World) (h : MgIn w m k sa) (R : Ending → World → Prop) (hR : ∀ cv w', w'.ownsRow w.heap.size 126 2 cv (resQ (newE m k org body)).mbs.length ((resQ (newE m k org body)).mbs.flatMap mbC) → Mod [] w w' → R (.returned (.tuple #[ptV (resQ (newE m k org body)) cv, .int .i64 (resC (newE m k org body))])) w') : Calls Tryz.prog 67 #[msgV m sa, .int .i64 org, .string ⟨body.toArray⟩] w R := by
  unfold newE at hR
  refine rNew_cps m k sa org body hb w h R (fun cv w' h1 h2 ho hM => ?_) (fun h0 w' hM => ?_)
  · have := hR cv w'
    rw [h1, h2] at this
    exact this ho hM
  · have := hR (.slice none 0 0) w'
    rw [h0] at this
    exact this (World.ownsRow_nil _ _ _ _) hM
theorem rBallot_u (p : Pt) (ms : Value) (w : World) (h : PtIn w p ms) (R : Ending → World → Prop) (hR : ∀ cv w', w'.ownsRow w.heap.size 126 2 cv (balE p).1.2.2.1.length ((balE p).1.2.2.1.flatMap mbC) → Mod [] w w' → R (.returned (.tuple #[balV (balE p).1.1 (balE p).1.2.1 cv (balE p).1.2.2.2, .bool (balE p).2])) w') : Calls Tryz.prog 69 #[ptV p ms] w R := by
  unfold balE at hR
  refine rBallot_cps p ms w h R (fun cv w' h1 ho hM => ?_) (fun h0 w' hM => ?_)
  · have := hR cv w'
    rw [if_pos h1] at this
    exact this ho hM
  · have := hR (.slice none 0 0) w'
    rw [if_neg (by rw [h0]; simp)] at this
    exact this (World.ownsRow_nil _ _ _ _) hM
/-- What is known of one that comes in. -/
structure PtArg (w : World) (p : Pt) (ms : Value) : Prop where
  st : p.st < 256
  sent : I64 p.sent
  mbs : MbsIn w ms p.mbs
  body : p.body.length ≤ maxLen
  tag : p.tag.length ≤ maxLen
def longPt (p : Pt) : Bool := longB p.mbs || decide (20000 < p.body.length) || decide (20000 < p.tag.length)
theorem longB_is {l : List Mb} (h : longB l = false) : l.length ≤ 20 ∧ ∀ x ∈ l, x.2.length ≤ 20000 := by
  unfold longB at h
  simp only [Bool.or_eq_false_iff] at h
  refine ⟨by have := of_decide_eq_false h.1; omega, fun x hx => ?_⟩
  have := List.any_eq_false.1 h.2 x hx
  simp only [decide_eq_true_eq] at this
  omega
theorem PtArg.in {w : World} {p : Pt} {ms : Value} (h : PtArg w p ms) (hl : longPt p = false) : PtIn w p ms := by
  unfold longPt at hl
  simp only [Bool.or_eq_false_iff] at hl
  have := longB_is hl.1.1
  exact ⟨h.st, h.sent, by omega, h.mbs.dig, h.mbs.rd, h.body, h.tag⟩
theorem PtArg.mod {w w' : World} {p : Pt} {ms : Value} (h : PtArg w p ms) (hM : Mod [] w w') : PtArg w' p ms := ⟨h.st, h.sent, ⟨h.mbs.rd.mod hM (by simp), h.mbs.len, h.mbs.dig, h.mbs.org⟩, h.body, h.tag⟩
set_option maxRecDepth 20000 in
set_option maxHeartbeats 8000000 in
theorem Long23_cps (p : Pt) (ms : Value) (w : World) (h : PtArg w p ms) (R : Ending → World → Prop) (hR : ∀ w', Mod [] w w' → R (.returned (.bool (longPt p))) w') :
    Calls Tryz.prog 51 #[ptV p ms] w R := by
  have hmb := h.mbs
  have os : ms.oneCell' = true := by obtain ⟨a, c, e⟩ := h.mbs.rd.slice; rw [e]; rfl
  clear h
  unfold longPt at hR
  obtain ⟨⟨xa, xb, xc⟩, aud, mbs, org, body, st, tag, sent⟩ := p
  unfold ptV ptC
  simp only at hR hmb ⊢
  refine calls_go 4000 okT Tryz.func51 rfl (rs := [.tmp 2]) rfl Tryz.ntmps51 (args := [.agg #[.int .i64 xa, .int .i64 xb, .int .i64 xc, .int .i64 aud, ms, .int .i64 org, .string ⟨body.toArray⟩, .int .u8 st, .string ⟨tag.toArray⟩, .int .i64 sent]]) ?_
  simp (maxSteps := 1000000) (disch := first | omega | (simp only [sizeAlloc, sizeDrew, sizeSet, sizePut] <;> omega) | fail) only [GS, TT_eq, TTl, Nat.reduceAdd, Nat.reduceMul, Nat.reduceSub, Nat.reduceDiv, Nat.reduceMod, Nat.reducePow, Nat.reduceEqDiff, ↓reduceIte, reduceCtorEq, Int.reduceToNat, Int.reduceAdd, Int.reduceSub, Int.reduceMul, os, cellsL_one os]
  generalize hW : w.alloc (.cells #[.int .i64 xa, .int .i64 xb, .int .i64 xc, .int .i64 aud, ms, .int .i64 org, .string ⟨body.toArray⟩, .int .u8 st, .string ⟨tag.toArray⟩, .int .i64 sent] 72) = w1
  obtain ⟨hA, hM0⟩ := bx10 hW
  clear hW
  generalize hn : w.heap.size = n at *
  have c1 := fun o => cellOf (o := o) hA
  refine ⟨fok37, Long12_cps ms mbs _ _ hmb.len hmb.dig (hmb.rd.mod hM0 (by simp)) (.inl ⟨_, rfl, hold_ops okT (rs := [.tmp 2]) rfl ?_⟩)⟩
  cases hl : longB mbs
  rotate_left
  · rw [hl] at hR
    simp only [Bool.true_or] at hR
    simp (maxSteps := 1000000) (disch := first | omega | (simp only [sizeAlloc, sizeDrew, sizeSet, sizePut] <;> omega) | fail) only [GS, TT_eq, TTl, Nat.reduceAdd, Nat.reduceMul, Nat.reduceSub, Nat.reduceDiv, Nat.reduceMod, Nat.reducePow, Nat.reduceEqDiff, ↓reduceIte, reduceCtorEq, Int.reduceToNat, Int.reduceAdd, Int.reduceSub, Int.reduceMul]
    exact hR _ hM0
  rw [hl, Bool.false_or] at hR
  by_cases hb : (20000 : Int) < ((body.length : Nat) : Int)
  · rw [decide_eq_true (show 20000 < body.length by omega), Bool.true_or] at hR
    simp (maxSteps := 1000000) (disch := first | omega | (simp only [sizeAlloc, sizeDrew, sizeSet, sizePut] <;> omega) | fail) only [GS, TT_eq, TTl, Nat.reduceAdd, Nat.reduceMul, Nat.reduceSub, Nat.reduceDiv, Nat.reduceMod, Nat.reducePow, Nat.reduceEqDiff, ↓reduceIte, reduceCtorEq, Int.reduceToNat, Int.reduceAdd, Int.reduceSub, Int.reduceMul, c1, hb]
    exact hR _ hM0
  rw [decide_eq_false (show ¬ 20000 < body.length by omega), Bool.false_or] at hR
  by_cases ht : (20000 : Int) < ((tag.length : Nat) : Int)
  · rw [decide_eq_true (show 20000 < tag.length by omega)] at hR
    simp (maxSteps := 1000000) (disch := first | omega | (simp only [sizeAlloc, sizeDrew, sizeSet, sizePut] <;> omega) | fail) only [GS, TT_eq, TTl, Nat.reduceAdd, Nat.reduceMul, Nat.reduceSub, Nat.reduceDiv, Nat.reduceMod, Nat.reducePow, Nat.reduceEqDiff, ↓reduceIte, reduceCtorEq, Int.reduceToNat, Int.reduceAdd, Int.reduceSub, Int.reduceMul, c1, hb, ht]
    exact hR _ hM0
  · rw [decide_eq_false (show ¬ 20000 < tag.length by omega)] at hR
    simp (maxSteps := 1000000) (disch := first | omega | (simp only [sizeAlloc, sizeDrew, sizeSet, sizePut] <;> omega) | fail) only [GS, TT_eq, TTl, Nat.reduceAdd, Nat.reduceMul, Nat.reduceSub, Nat.reduceDiv, Nat.reduceMod, Nat.reducePow, Nat.reduceEqDiff, ↓reduceIte, reduceCtorEq, Int.reduceToNat, Int.reduceAdd, Int.reduceSub, Int.reduceMul, c1, hb, ht]
    exact hR _ hM0
section
variable {H : Type} {enc : TypeId × Value → H} {w : World} {base : Nat} {spare : Nat → Bool} {held : Bool}
theorem cells10 {cs : List Value} (hl : cs.length = 10) : ∃ k0 k1 k2 k3 k4 k5 k6 k7 k8 k9, cs = [k0, k1, k2, k3, k4, k5, k6, k7, k8, k9] := by
  match cs, hl with
  | [k0, k1, k2, k3, k4, k5, k6, k7, k8, k9], _ => exact ⟨_, _, _, _, _, _, _, _, _, _, rfl⟩
set_option maxHeartbeats 2000000 in
theorem pt_el : ∀ n cs y, DataW.trod enc Tryz.prog w base spare held n 72 cs = some y → ∃ (p : Pt) (ms : Value), cs = ptC p ms ∧ PtArg w p ms := by
  intro n cs y h
  obtain ⟨hl, hf⟩ := el_field Tryz.underlying72 h
  rw [show Tryz.prog.cellsOf 72 = 10 from by kernel_rfl] at hl
  obtain ⟨m0, z0, e0⟩ := hf 0 _ rfl
  obtain ⟨m1, z1, e1⟩ := hf 1 _ rfl
  obtain ⟨m2, z2, e2⟩ := hf 2 _ rfl
  obtain ⟨m3, z3, e3⟩ := hf 3 _ rfl
  obtain ⟨m4, z4, e4⟩ := hf 4 _ rfl
  obtain ⟨m5, z5, e5⟩ := hf 5 _ rfl
  obtain ⟨m6, z6, e6⟩ := hf 6 _ rfl
  obtain ⟨m7, z7, e7⟩ := hf 7 _ rfl
  obtain ⟨a0, f0, t1, t2, t3⟩ := tx_el _ _ _ e0
  obtain ⟨a1, f1, _, g1⟩ := DataW.trod_int Tryz.underlying3 e1
  obtain ⟨sa, l, f2, hm⟩ := mbs_in e2
  obtain ⟨a3, f3, _, g3⟩ := DataW.trod_int Tryz.underlying3 e3
  obtain ⟨a4, f4, _, g4⟩ := DataW.trod_string Tryz.underlying9 e4
  obtain ⟨a5, f5, _, g5⟩ := DataW.trod_int Tryz.underlying5 e5
  obtain ⟨a6, f6, _, g6⟩ := DataW.trod_string Tryz.underlying9 e6
  obtain ⟨a7, f7, _, g7⟩ := DataW.trod_int Tryz.underlying2 e7
  have f0 : List.take (Tryz.prog.cellsOf 24) (List.drop 0 cs) = _ := f0
  have f1 : List.take (Tryz.prog.cellsOf 3) (List.drop 3 cs) = _ := f1
  have f2 : List.take (Tryz.prog.cellsOf 25) (List.drop 4 cs) = _ := f2
  have f3 : List.take (Tryz.prog.cellsOf 3) (List.drop 5 cs) = _ := f3
  have f4 : List.take (Tryz.prog.cellsOf 9) (List.drop 6 cs) = _ := f4
  have f5 : List.take (Tryz.prog.cellsOf 5) (List.drop 7 cs) = _ := f5
  have f6 : List.take (Tryz.prog.cellsOf 9) (List.drop 8 cs) = _ := f6
  have f7 : List.take (Tryz.prog.cellsOf 2) (List.drop 9 cs) = _ := f7
  rw [show Tryz.prog.cellsOf 5 = 1 from by kernel_rfl] at f5
  rw [show Tryz.prog.cellsOf 24 = 3 from by kernel_rfl] at f0
  rw [show Tryz.prog.cellsOf 3 = 1 from by kernel_rfl] at f1 f3
  rw [show Tryz.prog.cellsOf 25 = 1 from by kernel_rfl] at f2
  rw [show Tryz.prog.cellsOf 9 = 1 from by kernel_rfl] at f4 f6
  rw [show Tryz.prog.cellsOf 2 = 1 from by kernel_rfl] at f7
  obtain ⟨k0, k1, k2, k3, k4, k5, k6, k7, k8, k9, rfl⟩ := cells10 hl
  clear e0 e1 e2 e3 e4 e5 e6 e7 hf h
  unfold txC at f0
  simp only [List.drop_succ_cons, List.drop_zero, List.take_succ_cons, List.take_zero, List.cons.injEq, and_true] at f0 f1 f2 f3 f4 f5 f6 f7
  have q0 := wf_u8 g5
  refine ⟨⟨a0, a1, l, a3, a4.data.toList, a5.toNat, a6.data.toList, a7⟩, sa, ?_, ⟨by simp only; omega, wf_i64 g7, hm, ?_, ?_⟩⟩
  · have e0 : ((a5.toNat : Nat) : Int) = a5 := Int.toNat_of_nonneg q0.1
    unfold ptC
    simp only
    rw [e0, byL, byL, f0.1, f0.2.1, f0.2.2, f1, f2, f3, f4, f5, f6, f7]
  · show a4.data.toList.length ≤ maxLen
    rw [Array.length_toList]
    exact g4
  · show a6.data.toList.length ≤ maxLen
    rw [Array.length_toList]
    exact g6
end
end Go.Proofs.YtpcilobbohokcaaGreat
