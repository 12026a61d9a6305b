/-
  PartSteps (walk).
-/
import Derived.Test.YtpcilobbohokcaaGreatPstParE
set_option linter.unusedSimpArgs false
set_option linter.unusedVariables false
set_option maxRecDepth 20000
namespace Go.Proofs.YtpcilobbohokcaaGreat
open Go Go.Wk Go.RowKit
attribute [local irreducible] go Hold
open Go.Lib
theorem agg10p {w w' : World} {n : Nat} {x0 x1 x2 x3 x4 x5 x6 x7 x8 x9 : Value} (h : w.heap[n]? = some (.cells #[x0, x1, x2, x3, x4, x5, x6, x7, x8, x9] 72 (0, 0))) (hm : Mod [] w w') : aggO (consO (w'.cell? ⟨n, 0, none⟩) (consO (w'.cell? ⟨n, 1, none⟩) (consO (w'.cell? ⟨n, 2, none⟩) (consO (w'.cell? ⟨n, 3, none⟩) (consO (w'.cell? ⟨n, 4, none⟩) (consO (w'.cell? ⟨n, 5, none⟩) (consO (w'.cell? ⟨n, 6, none⟩) (consO (w'.cell? ⟨n, 7, none⟩) (consO (w'.cell? ⟨n, 8, none⟩) (consO (w'.cell? ⟨n, 9, none⟩) (some []))))))))))) = some (.agg #[x0, x1, x2, x3, x4, x5, x6, x7, x8, x9]) := by
  have c := fun o => cellOf (o := o) (hm.get h (by simp))
  rw [c 0, c 1, c 2, c 3, c 4, c 5, c 6, c 7, c 8, c 9]
  rfl
theorem pb2_self (b : Bool) : beq2 b b = true := by cases b <;> rfl
theorem what_mbs (p : Pt) : (whatM p).1.mbs = [] := by
  unfold whatM
  split
  · split <;> rfl
  · rfl
theorem res_len {p : Pt} (E : Except Int Pt) (h : ∀ q, E = .ok q → q.mbs = p.mbs) (hl : p.mbs.length ≤ 1000000) : (resQ E).mbs.length ≤ 1000000 := by
  cases E with
  | ok q => rw [show resQ (.ok q) = q from rfl, h q rfl]; exact hl
  | error c => simp [resQ, ptN]
theorem vote_mbs {p q : Pt} {y : Bool} {t : List UInt8} (h : voteE p y t = .ok q) : q.mbs = p.mbs := by
  unfold voteE voteF at h
  repeat' split at h
  all_goals first | (simp only [Except.ok.injEq] at h; subst h; rfl) | simp at h
theorem learn_mbs {p q : Pt} {c : Bool} (h : learnE p c = .ok q) : q.mbs = p.mbs := by
  unfold learnE at h
  repeat' split at h
  all_goals first | (simp only [Except.ok.injEq] at h; subst h; rfl) | simp at h
theorem mark_mbs {p q : Pt} {n : Int} (h : markE p n = .ok q) : q.mbs = p.mbs := by
  unfold markE at h
  repeat' split at h
  all_goals first | (simp only [Except.ok.injEq] at h; subst h; rfl) | simp at h
set_option maxRecDepth 20000 in
set_option maxHeartbeats 64000000 in
theorem steps_cps (p : Pt) (ms : Value) (yes : Bool) (t : List UInt8) (now wait : Int) (w : World) (ht : t.length ≤ maxLen) (hnw : I64 now) (hwt : I64 wait) (ha : PtArg w p ms) (R : Ending → World → Prop) (hR : ∀ w', Mod [] w w' → R (.returned (.bool true)) w') :
    Calls Tryz.prog 8 #[ptV p ms, .bool yes, .string ⟨t.toArray⟩, .int .i64 now, .int .i64 wait] w R := by
  have os : ms.oneCell' = true := by obtain ⟨a, c, e⟩ := ha.mbs.rd.slice; rw [e]; rfl
  have hLg := fun w h => Long23_cps p ms w h
  unfold ptV ptC at hLg ⊢
  refine calls_go 4000 okT Tryz.func8 rfl (rs := [.tmp 10]) rfl Tryz.ntmps8 (args := [.agg #[.int .i64 p.tx.1, .int .i64 p.tx.2.1, .int .i64 p.tx.2.2, .int .i64 p.aud, ms, .int .i64 p.org, .string ⟨p.body.toArray⟩, .int .u8 p.st, .string ⟨p.tag.toArray⟩, .int .i64 p.sent], .bool yes, .string ⟨t.toArray⟩, .int .i64 now, .int .i64 wait]) ?_
  simp (maxSteps := 1000000) (disch := first | omega | (simp only [sizeAlloc, sizeDrew, sizeSet, sizePut] <;> omega) | fail) only [GS, TT_eq, TTl, Nat.reduceAdd, Nat.reduceMul, Nat.reduceSub, Nat.reduceDiv, Nat.reduceMod, Nat.reducePow, Nat.reduceEqDiff, ↓reduceIte, reduceCtorEq, Int.reduceToNat, Int.reduceAdd, Int.reduceSub, Int.reduceMul, os, cellsL_one os]
  generalize hW : w.alloc (.cells #[.int .i64 p.tx.1, .int .i64 p.tx.2.1, .int .i64 p.tx.2.2, .int .i64 p.aud, ms, .int .i64 p.org, .string ⟨p.body.toArray⟩, .int .u8 p.st, .string ⟨p.tag.toArray⟩, .int .i64 p.sent] 72) = w1
  obtain ⟨bP, hM0⟩ := bx10 hW
  clear hW
  generalize hn : w.heap.size = n at *
  replace ha := ha.mod hM0
  refine ⟨fok51, hLg _ ha _ fun u0 hM_ => .inl ⟨_, rfl, hold_ops okT (rs := [.tmp 10]) rfl ?_⟩⟩
  replace ha := ha.mod hM_
  replace bP := hM_.get bP (by simp)
  replace hM0 := hM0.trans hM_ (by simp)
  cases hl : longPt p
  rotate_left
  · simp (maxSteps := 1000000) (disch := first | omega | (simp only [sizeAlloc, sizeDrew, sizeSet, sizePut] <;> omega) | fail) only [GS, TT_eq, TTl, Nat.reduceAdd, Nat.reduceMul, Nat.reduceSub, Nat.reduceDiv, Nat.reduceMod, Nat.reducePow, Nat.reduceEqDiff, ↓reduceIte, reduceCtorEq, Int.reduceToNat, Int.reduceAdd, Int.reduceSub, Int.reduceMul]
    refine ⟨fok52, alive23_cps _ _ fun w30 hM30 => .inl ⟨_, rfl, hold_ops okT (rs := [.tmp 10]) rfl ?_⟩⟩
    simp (maxSteps := 1000000) (disch := first | omega | (simp only [sizeAlloc, sizeDrew, sizeSet, sizePut] <;> omega) | fail) only [GS, TT_eq, TTl, Nat.reduceAdd, Nat.reduceMul, Nat.reduceSub, Nat.reduceDiv, Nat.reduceMod, Nat.reducePow, Nat.reduceEqDiff, ↓reduceIte, reduceCtorEq, Int.reduceToNat, Int.reduceAdd, Int.reduceSub, Int.reduceMul]
    exact hR _ (hM0.trans hM30 (by simp))
  by_cases hlt : (20000 : Int) < ((t.length : Nat) : Int)
  · simp (maxSteps := 1000000) (disch := first | omega | (simp only [sizeAlloc, sizeDrew, sizeSet, sizePut] <;> omega) | fail) only [GS, TT_eq, TTl, Nat.reduceAdd, Nat.reduceMul, Nat.reduceSub, Nat.reduceDiv, Nat.reduceMod, Nat.reducePow, Nat.reduceEqDiff, ↓reduceIte, reduceCtorEq, Int.reduceToNat, Int.reduceAdd, Int.reduceSub, Int.reduceMul, hlt]
    refine ⟨fok52, alive23_cps _ _ fun w30 hM30 => .inl ⟨_, rfl, hold_ops okT (rs := [.tmp 10]) rfl ?_⟩⟩
    simp (maxSteps := 1000000) (disch := first | omega | (simp only [sizeAlloc, sizeDrew, sizeSet, sizePut] <;> omega) | fail) only [GS, TT_eq, TTl, Nat.reduceAdd, Nat.reduceMul, Nat.reduceSub, Nat.reduceDiv, Nat.reduceMod, Nat.reducePow, Nat.reduceEqDiff, ↓reduceIte, reduceCtorEq, Int.reduceToNat, Int.reduceAdd, Int.reduceSub, Int.reduceMul]
    exact hR _ (hM0.trans hM30 (by simp))
  have hin := ha.in hl
  have hpl := hin.len
  clear ha hLg
  have q1l := res_len (voteE p yes t) (fun q h => vote_mbs h) hpl
  have q2l := res_len (learnE p yes) (fun q h => learn_mbs h) hpl
  have q3l := res_len (markE p now) (fun q h => mark_mbs h) hpl
  have hwm := what_mbs p
  have hOw := fun ns w h => rOwn_cps p ns w h
  have hV1 := fun ns w h => pVote_u p ns yes t ht w h
  have hV2 := fun ns w h => rVote_u p ns yes t ht w h
  have hL1 := fun ns w h => pLearn_u p ns yes w h
  have hL2 := fun ns w h => rLearn_u p ns yes w h
  have hK1 := fun ns w h => pMark_u p ns now w h
  have hK2 := fun ns w h => rMark_u p ns now w h
  have hW1 := fun ns w h => pWhat_cps p ns w h
  have hW2 := fun ns w h => rWhat_cps p ns w h
  have hD1 := fun ns w h => pDue_cps p ns now wait hnw hwt w h
  have hD2 := fun ns w h => rDue_cps p ns now wait hnw hwt w h
  have hS0 := fun ms ns w h1 h2 => rSame23_cps p ms ns w hpl h1 h2
  have hS1 := fun ms ns w h1 h2 => rSame23_cps (resQ (voteE p yes t)) ms ns w q1l h1 h2
  clear q1l
  generalize resQ (voteE p yes t) = Q1 at *
  generalize resC (voteE p yes t) = E1 at *
  have hS2 := fun ms ns w h1 h2 => rSame23_cps (resQ (learnE p yes)) ms ns w q2l h1 h2
  clear q2l
  generalize resQ (learnE p yes) = Q2 at *
  generalize resC (learnE p yes) = E2 at *
  have hS3 := fun ms ns w h1 h2 => rSame23_cps (resQ (markE p now)) ms ns w q3l h1 h2
  clear q3l
  generalize resQ (markE p now) = Q3 at *
  generalize resC (markE p now) = E3 at *
  generalize dueB p now wait = DB at *
  generalize whatM p = WM at *
  obtain ⟨M, MB⟩ := WM
  simp only at hwm hW1 hW2
  unfold ptV ptC at hOw hV1 hV2 hL1 hL2 hK1 hK2 hW1 hW2 hD1 hD2 hS0 hS1 hS2 hS3
  unfold msgV msgC at hW1 hW2
  have c_bP := fun o => cellOf (o := o) bP
  simp (maxSteps := 1000000) (disch := first | omega | (simp only [sizeAlloc, sizeDrew, sizeSet, sizePut] <;> omega) | fail) only [GS, TT_eq, TTl, Nat.reduceAdd, Nat.reduceMul, Nat.reduceSub, Nat.reduceDiv, Nat.reduceMod, Nat.reducePow, Nat.reduceEqDiff, ↓reduceIte, reduceCtorEq, Int.reduceToNat, Int.reduceAdd, Int.reduceSub, Int.reduceMul, c_bP, hlt]
  refine ⟨fok53, hOw _ _ hin _ fun cvO u1 oO hM_ => .inl ⟨_, rfl, hold_stop (s' := some 4) (hold_ops okT (rs := [.tmp 10]) rfl ?_)⟩⟩
  replace hM0 := hM0.trans hM_ (by simp)
  replace bP := hM_.get bP (by simp)
  replace hin := hin.mod hM_
  have oc := ownsRow_one oO
  simp (maxSteps := 1000000) (disch := first | omega | (simp only [sizeAlloc, sizeDrew, sizeSet, sizePut] <;> omega) | fail) only [GS, TT_eq, TTl, Nat.reduceAdd, Nat.reduceMul, Nat.reduceSub, Nat.reduceDiv, Nat.reduceMod, Nat.reducePow, Nat.reduceEqDiff, ↓reduceIte, reduceCtorEq, Int.reduceToNat, Int.reduceAdd, Int.reduceSub, Int.reduceMul, oc, cellsL_one oc]
  generalize hW_ : (((((((((((u1.alloc (.cells #[.int .i64 0, .int .i64 0, .int .i64 0, .int .i64 0, .slice none 0 0, .int .i64 0, .string ⟨#[]⟩, .int .u8 0, .string ⟨#[]⟩, .int .i64 0] 72)).setCell ⟨u1.heap.size, 0, none⟩ (.int .i64 p.tx.1)).setCell ⟨u1.heap.size, 1, none⟩ (.int .i64 p.tx.2.1)).setCell ⟨u1.heap.size, 2, none⟩ (.int .i64 p.tx.2.2)).setCell ⟨u1.heap.size, 3, none⟩ (.int .i64 p.aud)).setCell ⟨u1.heap.size, 4, none⟩ (cvO)).setCell ⟨u1.heap.size, 5, none⟩ (.int .i64 p.org)).setCell ⟨u1.heap.size, 6, none⟩ (.string ⟨p.body.toArray⟩)).setCell ⟨u1.heap.size, 7, none⟩ (.int .u8 p.st)).setCell ⟨u1.heap.size, 8, none⟩ (.string ⟨p.tag.toArray⟩)).setCell ⟨u1.heap.size, 9, none⟩ (.int .i64 p.sent)) = u2
  obtain ⟨bO, hM_⟩ : u2.heap[u1.heap.size]? = some (.cells #[.int .i64 p.tx.1, .int .i64 p.tx.2.1, .int .i64 p.tx.2.2, .int .i64 p.aud, cvO, .int .i64 p.org, .string ⟨p.body.toArray⟩, .int .u8 p.st, .string ⟨p.tag.toArray⟩, .int .i64 p.sent] 72 (0, 0)) ∧ Mod [] u1 u2 := by
    subst hW_
    exact ⟨st10 heapNew, modSet10 ((Mod.refl [] u1).alloc _) (.inr (Nat.le_refl _))⟩
  clear hW_
  replace hM0 := hM0.trans hM_ (by simp)
  replace bP := hM_.get bP (by simp)
  replace hin := hin.mod hM_
  replace oO := ownsRow_mod oO hM_ (by simp)
  generalize u1.heap.size = qO at *
  refine hold_stop (s' := none) ?_
  refine hold_code okT (rs := [.tmp 10]) rfl ?_
  clear oc
  have c_bO := fun o => cellOf (o := o) bO
  simp (maxSteps := 1000000) (disch := first | omega | (simp only [sizeAlloc, sizeDrew, sizeSet, sizePut] <;> omega) | fail) only [GS, TT_eq, TTl, Nat.reduceAdd, Nat.reduceMul, Nat.reduceSub, Nat.reduceDiv, Nat.reduceMod, Nat.reducePow, Nat.reduceEqDiff, ↓reduceIte, reduceCtorEq, Int.reduceToNat, Int.reduceAdd, Int.reduceSub, Int.reduceMul, c_bO]
  refine ⟨fok54, hV1 _ _ (hin.new (Rd.own oO)) _ fun cv1a u3 o1a hM_ => .inl ⟨_, rfl, hold_stop (s' := some 5) (hold_ops okT (rs := [.tmp 10]) rfl ?_)⟩⟩
  replace hM0 := hM0.trans hM_ (by simp)
  replace bP := hM_.get bP (by simp)
  replace hin := hin.mod hM_
  replace oO := ownsRow_mod oO hM_ (by simp)
  replace bO := hM_.get bO (by simp)
  have oc := ownsRow_one o1a
  simp (maxSteps := 1000000) (disch := first | omega | (simp only [sizeAlloc, sizeDrew, sizeSet, sizePut] <;> omega) | fail) only [GS, TT_eq, TTl, Nat.reduceAdd, Nat.reduceMul, Nat.reduceSub, Nat.reduceDiv, Nat.reduceMod, Nat.reducePow, Nat.reduceEqDiff, ↓reduceIte, reduceCtorEq, Int.reduceToNat, Int.reduceAdd, Int.reduceSub, Int.reduceMul, oc, cellsL_one oc]
  generalize hW_ : (((((((((((u3.alloc (.cells #[.int .i64 0, .int .i64 0, .int .i64 0, .int .i64 0, .slice none 0 0, .int .i64 0, .string ⟨#[]⟩, .int .u8 0, .string ⟨#[]⟩, .int .i64 0] 72)).setCell ⟨u3.heap.size, 0, none⟩ (.int .i64 Q1.tx.1)).setCell ⟨u3.heap.size, 1, none⟩ (.int .i64 Q1.tx.2.1)).setCell ⟨u3.heap.size, 2, none⟩ (.int .i64 Q1.tx.2.2)).setCell ⟨u3.heap.size, 3, none⟩ (.int .i64 Q1.aud)).setCell ⟨u3.heap.size, 4, none⟩ (cv1a)).setCell ⟨u3.heap.size, 5, none⟩ (.int .i64 Q1.org)).setCell ⟨u3.heap.size, 6, none⟩ (.string ⟨Q1.body.toArray⟩)).setCell ⟨u3.heap.size, 7, none⟩ (.int .u8 Q1.st)).setCell ⟨u3.heap.size, 8, none⟩ (.string ⟨Q1.tag.toArray⟩)).setCell ⟨u3.heap.size, 9, none⟩ (.int .i64 Q1.sent)) = u4
  obtain ⟨b1a, hM_⟩ : u4.heap[u3.heap.size]? = some (.cells #[.int .i64 Q1.tx.1, .int .i64 Q1.tx.2.1, .int .i64 Q1.tx.2.2, .int .i64 Q1.aud, cv1a, .int .i64 Q1.org, .string ⟨Q1.body.toArray⟩, .int .u8 Q1.st, .string ⟨Q1.tag.toArray⟩, .int .i64 Q1.sent] 72 (0, 0)) ∧ Mod [] u3 u4 := by
    subst hW_
    exact ⟨st10 heapNew, modSet10 ((Mod.refl [] u3).alloc _) (.inr (Nat.le_refl _))⟩
  clear hW_
  replace hM0 := hM0.trans hM_ (by simp)
  replace bP := hM_.get bP (by simp)
  replace hin := hin.mod hM_
  replace oO := ownsRow_mod oO hM_ (by simp)
  replace bO := hM_.get bO (by simp)
  replace o1a := ownsRow_mod o1a hM_ (by simp)
  generalize u3.heap.size = q1a at *
  refine hold_stop (s' := none) ?_
  refine hold_code okT (rs := [.tmp 10]) rfl ?_
  clear oc
  have c_bP := fun o => cellOf (o := o) bP
  simp (maxSteps := 1000000) (disch := first | omega | (simp only [sizeAlloc, sizeDrew, sizeSet, sizePut] <;> omega) | fail) only [GS, TT_eq, TTl, Nat.reduceAdd, Nat.reduceMul, Nat.reduceSub, Nat.reduceDiv, Nat.reduceMod, Nat.reducePow, Nat.reduceEqDiff, ↓reduceIte, reduceCtorEq, Int.reduceToNat, Int.reduceAdd, Int.reduceSub, Int.reduceMul, c_bP]
  refine ⟨fok55, hV2 _ _ hin _ fun cv1b u5 o1b hM_ => .inl ⟨_, rfl, hold_stop (s' := some 6) (hold_ops okT (rs := [.tmp 10]) rfl ?_)⟩⟩
  replace hM0 := hM0.trans hM_ (by simp)
  replace bP := hM_.get bP (by simp)
  replace hin := hin.mod hM_
  replace oO := ownsRow_mod oO hM_ (by simp)
  replace bO := hM_.get bO (by simp)
  replace o1a := ownsRow_mod o1a hM_ (by simp)
  replace b1a := hM_.get b1a (by simp)
  have oc := ownsRow_one o1b
  simp (maxSteps := 1000000) (disch := first | omega | (simp only [sizeAlloc, sizeDrew, sizeSet, sizePut] <;> omega) | fail) only [GS, TT_eq, TTl, Nat.reduceAdd, Nat.reduceMul, Nat.reduceSub, Nat.reduceDiv, Nat.reduceMod, Nat.reducePow, Nat.reduceEqDiff, ↓reduceIte, reduceCtorEq, Int.reduceToNat, Int.reduceAdd, Int.reduceSub, Int.reduceMul, oc, cellsL_one oc]
  generalize hW_ : (((((((((((u5.alloc (.cells #[.int .i64 0, .int .i64 0, .int .i64 0, .int .i64 0, .slice none 0 0, .int .i64 0, .string ⟨#[]⟩, .int .u8 0, .string ⟨#[]⟩, .int .i64 0] 72)).setCell ⟨u5.heap.size, 0, none⟩ (.int .i64 Q1.tx.1)).setCell ⟨u5.heap.size, 1, none⟩ (.int .i64 Q1.tx.2.1)).setCell ⟨u5.heap.size, 2, none⟩ (.int .i64 Q1.tx.2.2)).setCell ⟨u5.heap.size, 3, none⟩ (.int .i64 Q1.aud)).setCell ⟨u5.heap.size, 4, none⟩ (cv1b)).setCell ⟨u5.heap.size, 5, none⟩ (.int .i64 Q1.org)).setCell ⟨u5.heap.size, 6, none⟩ (.string ⟨Q1.body.toArray⟩)).setCell ⟨u5.heap.size, 7, none⟩ (.int .u8 Q1.st)).setCell ⟨u5.heap.size, 8, none⟩ (.string ⟨Q1.tag.toArray⟩)).setCell ⟨u5.heap.size, 9, none⟩ (.int .i64 Q1.sent)) = u6
  obtain ⟨b1b, hM_⟩ : u6.heap[u5.heap.size]? = some (.cells #[.int .i64 Q1.tx.1, .int .i64 Q1.tx.2.1, .int .i64 Q1.tx.2.2, .int .i64 Q1.aud, cv1b, .int .i64 Q1.org, .string ⟨Q1.body.toArray⟩, .int .u8 Q1.st, .string ⟨Q1.tag.toArray⟩, .int .i64 Q1.sent] 72 (0, 0)) ∧ Mod [] u5 u6 := by
    subst hW_
    exact ⟨st10 heapNew, modSet10 ((Mod.refl [] u5).alloc _) (.inr (Nat.le_refl _))⟩
  clear hW_
  replace hM0 := hM0.trans hM_ (by simp)
  replace bP := hM_.get bP (by simp)
  replace hin := hin.mod hM_
  replace oO := ownsRow_mod oO hM_ (by simp)
  replace bO := hM_.get bO (by simp)
  replace o1a := ownsRow_mod o1a hM_ (by simp)
  replace b1a := hM_.get b1a (by simp)
  replace o1b := ownsRow_mod o1b hM_ (by simp)
  generalize u5.heap.size = q1b at *
  refine hold_stop (s' := none) ?_
  refine hold_code okT (rs := [.tmp 10]) rfl ?_
  clear oc
  have c_bO := fun o => cellOf (o := o) bO
  simp (maxSteps := 1000000) (disch := first | omega | (simp only [sizeAlloc, sizeDrew, sizeSet, sizePut] <;> omega) | fail) only [GS, TT_eq, TTl, Nat.reduceAdd, Nat.reduceMul, Nat.reduceSub, Nat.reduceDiv, Nat.reduceMod, Nat.reducePow, Nat.reduceEqDiff, ↓reduceIte, reduceCtorEq, Int.reduceToNat, Int.reduceAdd, Int.reduceSub, Int.reduceMul, c_bO]
  refine ⟨fok56, hL1 _ _ (hin.new (Rd.own oO)) _ fun cv2a u7 o2a hM_ => .inl ⟨_, rfl, hold_stop (s' := some 7) (hold_ops okT (rs := [.tmp 10]) rfl ?_)⟩⟩
  replace hM0 := hM0.trans hM_ (by simp)
  replace bP := hM_.get bP (by simp)
  replace hin := hin.mod hM_
  replace oO := ownsRow_mod oO hM_ (by simp)
  replace bO := hM_.get bO (by simp)
  replace o1a := ownsRow_mod o1a hM_ (by simp)
  replace b1a := hM_.get b1a (by simp)
  replace o1b := ownsRow_mod o1b hM_ (by simp)
  replace b1b := hM_.get b1b (by simp)
  have oc := ownsRow_one o2a
  simp (maxSteps := 1000000) (disch := first | omega | (simp only [sizeAlloc, sizeDrew, sizeSet, sizePut] <;> omega) | fail) only [GS, TT_eq, TTl, Nat.reduceAdd, Nat.reduceMul, Nat.reduceSub, Nat.reduceDiv, Nat.reduceMod, Nat.reducePow, Nat.reduceEqDiff, ↓reduceIte, reduceCtorEq, Int.reduceToNat, Int.reduceAdd, Int.reduceSub, Int.reduceMul, oc, cellsL_one oc]
  generalize hW_ : (((((((((((u7.alloc (.cells #[.int .i64 0, .int .i64 0, .int .i64 0, .int .i64 0, .slice none 0 0, .int .i64 0, .string ⟨#[]⟩, .int .u8 0, .string ⟨#[]⟩, .int .i64 0] 72)).setCell ⟨u7.heap.size, 0, none⟩ (.int .i64 Q2.tx.1)).setCell ⟨u7.heap.size, 1, none⟩ (.int .i64 Q2.tx.2.1)).setCell ⟨u7.heap.size, 2, none⟩ (.int .i64 Q2.tx.2.2)).setCell ⟨u7.heap.size, 3, none⟩ (.int .i64 Q2.aud)).setCell ⟨u7.heap.size, 4, none⟩ (cv2a)).setCell ⟨u7.heap.size, 5, none⟩ (.int .i64 Q2.org)).setCell ⟨u7.heap.size, 6, none⟩ (.string ⟨Q2.body.toArray⟩)).setCell ⟨u7.heap.size, 7, none⟩ (.int .u8 Q2.st)).setCell ⟨u7.heap.size, 8, none⟩ (.string ⟨Q2.tag.toArray⟩)).setCell ⟨u7.heap.size, 9, none⟩ (.int .i64 Q2.sent)) = u8
  obtain ⟨b2a, hM_⟩ : u8.heap[u7.heap.size]? = some (.cells #[.int .i64 Q2.tx.1, .int .i64 Q2.tx.2.1, .int .i64 Q2.tx.2.2, .int .i64 Q2.aud, cv2a, .int .i64 Q2.org, .string ⟨Q2.body.toArray⟩, .int .u8 Q2.st, .string ⟨Q2.tag.toArray⟩, .int .i64 Q2.sent] 72 (0, 0)) ∧ Mod [] u7 u8 := by
    subst hW_
    exact ⟨st10 heapNew, modSet10 ((Mod.refl [] u7).alloc _) (.inr (Nat.le_refl _))⟩
  clear hW_
  replace hM0 := hM0.trans hM_ (by simp)
  replace bP := hM_.get bP (by simp)
  replace hin := hin.mod hM_
  replace oO := ownsRow_mod oO hM_ (by simp)
  replace bO := hM_.get bO (by simp)
  replace o1a := ownsRow_mod o1a hM_ (by simp)
  replace b1a := hM_.get b1a (by simp)
  replace o1b := ownsRow_mod o1b hM_ (by simp)
  replace b1b := hM_.get b1b (by simp)
  replace o2a := ownsRow_mod o2a hM_ (by simp)
  generalize u7.heap.size = q2a at *
  refine hold_stop (s' := none) ?_
  refine hold_code okT (rs := [.tmp 10]) rfl ?_
  clear oc
  have c_bP := fun o => cellOf (o := o) bP
  simp (maxSteps := 1000000) (disch := first | omega | (simp only [sizeAlloc, sizeDrew, sizeSet, sizePut] <;> omega) | fail) only [GS, TT_eq, TTl, Nat.reduceAdd, Nat.reduceMul, Nat.reduceSub, Nat.reduceDiv, Nat.reduceMod, Nat.reducePow, Nat.reduceEqDiff, ↓reduceIte, reduceCtorEq, Int.reduceToNat, Int.reduceAdd, Int.reduceSub, Int.reduceMul, c_bP]
  refine ⟨fok57, hL2 _ _ hin _ fun cv2b u9 o2b hM_ => .inl ⟨_, rfl, hold_stop (s' := some 8) (hold_ops okT (rs := [.tmp 10]) rfl ?_)⟩⟩
  replace hM0 := hM0.trans hM_ (by simp)
  replace bP := hM_.get bP (by simp)
  replace hin := hin.mod hM_
  replace oO := ownsRow_mod oO hM_ (by simp)
  replace bO := hM_.get bO (by simp)
  replace o1a := ownsRow_mod o1a hM_ (by simp)
  replace b1a := hM_.get b1a (by simp)
  replace o1b := ownsRow_mod o1b hM_ (by simp)
  replace b1b := hM_.get b1b (by simp)
  replace o2a := ownsRow_mod o2a hM_ (by simp)
  replace b2a := hM_.get b2a (by simp)
  have oc := ownsRow_one o2b
  simp (maxSteps := 1000000) (disch := first | omega | (simp only [sizeAlloc, sizeDrew, sizeSet, sizePut] <;> omega) | fail) only [GS, TT_eq, TTl, Nat.reduceAdd, Nat.reduceMul, Nat.reduceSub, Nat.reduceDiv, Nat.reduceMod, Nat.reducePow, Nat.reduceEqDiff, ↓reduceIte, reduceCtorEq, Int.reduceToNat, Int.reduceAdd, Int.reduceSub, Int.reduceMul, oc, cellsL_one oc]
  generalize hW_ : (((((((((((u9.alloc (.cells #[.int .i64 0, .int .i64 0, .int .i64 0, .int .i64 0, .slice none 0 0, .int .i64 0, .string ⟨#[]⟩, .int .u8 0, .string ⟨#[]⟩, .int .i64 0] 72)).setCell ⟨u9.heap.size, 0, none⟩ (.int .i64 Q2.tx.1)).setCell ⟨u9.heap.size, 1, none⟩ (.int .i64 Q2.tx.2.1)).setCell ⟨u9.heap.size, 2, none⟩ (.int .i64 Q2.tx.2.2)).setCell ⟨u9.heap.size, 3, none⟩ (.int .i64 Q2.aud)).setCell ⟨u9.heap.size, 4, none⟩ (cv2b)).setCell ⟨u9.heap.size, 5, none⟩ (.int .i64 Q2.org)).setCell ⟨u9.heap.size, 6, none⟩ (.string ⟨Q2.body.toArray⟩)).setCell ⟨u9.heap.size, 7, none⟩ (.int .u8 Q2.st)).setCell ⟨u9.heap.size, 8, none⟩ (.string ⟨Q2.tag.toArray⟩)).setCell ⟨u9.heap.size, 9, none⟩ (.int .i64 Q2.sent)) = u10
  obtain ⟨b2b, hM_⟩ : u10.heap[u9.heap.size]? = some (.cells #[.int .i64 Q2.tx.1, .int .i64 Q2.tx.2.1, .int .i64 Q2.tx.2.2, .int .i64 Q2.aud, cv2b, .int .i64 Q2.org, .string ⟨Q2.body.toArray⟩, .int .u8 Q2.st, .string ⟨Q2.tag.toArray⟩, .int .i64 Q2.sent] 72 (0, 0)) ∧ Mod [] u9 u10 := by
    subst hW_
    exact ⟨st10 heapNew, modSet10 ((Mod.refl [] u9).alloc _) (.inr (Nat.le_refl _))⟩
  clear hW_
  replace hM0 := hM0.trans hM_ (by simp)
  replace bP := hM_.get bP (by simp)
  replace hin := hin.mod hM_
  replace oO := ownsRow_mod oO hM_ (by simp)
  replace bO := hM_.get bO (by simp)
  replace o1a := ownsRow_mod o1a hM_ (by simp)
  replace b1a := hM_.get b1a (by simp)
  replace o1b := ownsRow_mod o1b hM_ (by simp)
  replace b1b := hM_.get b1b (by simp)
  replace o2a := ownsRow_mod o2a hM_ (by simp)
  replace b2a := hM_.get b2a (by simp)
  replace o2b := ownsRow_mod o2b hM_ (by simp)
  generalize u9.heap.size = q2b at *
  refine hold_stop (s' := none) ?_
  refine hold_code okT (rs := [.tmp 10]) rfl ?_
  clear oc
  have c_bO := fun o => cellOf (o := o) bO
  simp (maxSteps := 1000000) (disch := first | omega | (simp only [sizeAlloc, sizeDrew, sizeSet, sizePut] <;> omega) | fail) only [GS, TT_eq, TTl, Nat.reduceAdd, Nat.reduceMul, Nat.reduceSub, Nat.reduceDiv, Nat.reduceMod, Nat.reducePow, Nat.reduceEqDiff, ↓reduceIte, reduceCtorEq, Int.reduceToNat, Int.reduceAdd, Int.reduceSub, Int.reduceMul, c_bO]
  refine ⟨fok58, hK1 _ _ (hin.new (Rd.own oO)) _ fun cv3a u11 o3a hM_ => .inl ⟨_, rfl, hold_stop (s' := some 9) (hold_ops okT (rs := [.tmp 10]) rfl ?_)⟩⟩
  replace hM0 := hM0.trans hM_ (by simp)
  replace bP := hM_.get bP (by simp)
  replace hin := hin.mod hM_
  replace oO := ownsRow_mod oO hM_ (by simp)
  replace bO := hM_.get bO (by simp)
  replace o1a := ownsRow_mod o1a hM_ (by simp)
  replace b1a := hM_.get b1a (by simp)
  replace o1b := ownsRow_mod o1b hM_ (by simp)
  replace b1b := hM_.get b1b (by simp)
  replace o2a := ownsRow_mod o2a hM_ (by simp)
  replace b2a := hM_.get b2a (by simp)
  replace o2b := ownsRow_mod o2b hM_ (by simp)
  replace b2b := hM_.get b2b (by simp)
  have oc := ownsRow_one o3a
  simp (maxSteps := 1000000) (disch := first | omega | (simp only [sizeAlloc, sizeDrew, sizeSet, sizePut] <;> omega) | fail) only [GS, TT_eq, TTl, Nat.reduceAdd, Nat.reduceMul, Nat.reduceSub, Nat.reduceDiv, Nat.reduceMod, Nat.reducePow, Nat.reduceEqDiff, ↓reduceIte, reduceCtorEq, Int.reduceToNat, Int.reduceAdd, Int.reduceSub, Int.reduceMul, oc, cellsL_one oc]
  generalize hW_ : (((((((((((u11.alloc (.cells #[.int .i64 0, .int .i64 0, .int .i64 0, .int .i64 0, .slice none 0 0, .int .i64 0, .string ⟨#[]⟩, .int .u8 0, .string ⟨#[]⟩, .int .i64 0] 72)).setCell ⟨u11.heap.size, 0, none⟩ (.int .i64 Q3.tx.1)).setCell ⟨u11.heap.size, 1, none⟩ (.int .i64 Q3.tx.2.1)).setCell ⟨u11.heap.size, 2, none⟩ (.int .i64 Q3.tx.2.2)).setCell ⟨u11.heap.size, 3, none⟩ (.int .i64 Q3.aud)).setCell ⟨u11.heap.size, 4, none⟩ (cv3a)).setCell ⟨u11.heap.size, 5, none⟩ (.int .i64 Q3.org)).setCell ⟨u11.heap.size, 6, none⟩ (.string ⟨Q3.body.toArray⟩)).setCell ⟨u11.heap.size, 7, none⟩ (.int .u8 Q3.st)).setCell ⟨u11.heap.size, 8, none⟩ (.string ⟨Q3.tag.toArray⟩)).setCell ⟨u11.heap.size, 9, none⟩ (.int .i64 Q3.sent)) = u12
  obtain ⟨b3a, hM_⟩ : u12.heap[u11.heap.size]? = some (.cells #[.int .i64 Q3.tx.1, .int .i64 Q3.tx.2.1, .int .i64 Q3.tx.2.2, .int .i64 Q3.aud, cv3a, .int .i64 Q3.org, .string ⟨Q3.body.toArray⟩, .int .u8 Q3.st, .string ⟨Q3.tag.toArray⟩, .int .i64 Q3.sent] 72 (0, 0)) ∧ Mod [] u11 u12 := by
    subst hW_
    exact ⟨st10 heapNew, modSet10 ((Mod.refl [] u11).alloc _) (.inr (Nat.le_refl _))⟩
  clear hW_
  replace hM0 := hM0.trans hM_ (by simp)
  replace bP := hM_.get bP (by simp)
  replace hin := hin.mod hM_
  replace oO := ownsRow_mod oO hM_ (by simp)
  replace bO := hM_.get bO (by simp)
  replace o1a := ownsRow_mod o1a hM_ (by simp)
  replace b1a := hM_.get b1a (by simp)
  replace o1b := ownsRow_mod o1b hM_ (by simp)
  replace b1b := hM_.get b1b (by simp)
  replace o2a := ownsRow_mod o2a hM_ (by simp)
  replace b2a := hM_.get b2a (by simp)
  replace o2b := ownsRow_mod o2b hM_ (by simp)
  replace b2b := hM_.get b2b (by simp)
  replace o3a := ownsRow_mod o3a hM_ (by simp)
  generalize u11.heap.size = q3a at *
  refine hold_stop (s' := none) ?_
  refine hold_code okT (rs := [.tmp 10]) rfl ?_
  clear oc
  have c_bP := fun o => cellOf (o := o) bP
  simp (maxSteps := 1000000) (disch := first | omega | (simp only [sizeAlloc, sizeDrew, sizeSet, sizePut] <;> omega) | fail) only [GS, TT_eq, TTl, Nat.reduceAdd, Nat.reduceMul, Nat.reduceSub, Nat.reduceDiv, Nat.reduceMod, Nat.reducePow, Nat.reduceEqDiff, ↓reduceIte, reduceCtorEq, Int.reduceToNat, Int.reduceAdd, Int.reduceSub, Int.reduceMul, c_bP]
  refine ⟨fok59, hK2 _ _ hin _ fun cv3b u13 o3b hM_ => .inl ⟨_, rfl, hold_stop (s' := some 10) (hold_ops okT (rs := [.tmp 10]) rfl ?_)⟩⟩
  replace hM0 := hM0.trans hM_ (by simp)
  replace bP := hM_.get bP (by simp)
  replace hin := hin.mod hM_
  replace oO := ownsRow_mod oO hM_ (by simp)
  replace bO := hM_.get bO (by simp)
  replace o1a := ownsRow_mod o1a hM_ (by simp)
  replace b1a := hM_.get b1a (by simp)
  replace o1b := ownsRow_mod o1b hM_ (by simp)
  replace b1b := hM_.get b1b (by simp)
  replace o2a := ownsRow_mod o2a hM_ (by simp)
  replace b2a := hM_.get b2a (by simp)
  replace o2b := ownsRow_mod o2b hM_ (by simp)
  replace b2b := hM_.get b2b (by simp)
  replace o3a := ownsRow_mod o3a hM_ (by simp)
  replace b3a := hM_.get b3a (by simp)
  have oc := ownsRow_one o3b
  simp (maxSteps := 1000000) (disch := first | omega | (simp only [sizeAlloc, sizeDrew, sizeSet, sizePut] <;> omega) | fail) only [GS, TT_eq, TTl, Nat.reduceAdd, Nat.reduceMul, Nat.reduceSub, Nat.reduceDiv, Nat.reduceMod, Nat.reducePow, Nat.reduceEqDiff, ↓reduceIte, reduceCtorEq, Int.reduceToNat, Int.reduceAdd, Int.reduceSub, Int.reduceMul, oc, cellsL_one oc]
  generalize hW_ : (((((((((((u13.alloc (.cells #[.int .i64 0, .int .i64 0, .int .i64 0, .int .i64 0, .slice none 0 0, .int .i64 0, .string ⟨#[]⟩, .int .u8 0, .string ⟨#[]⟩, .int .i64 0] 72)).setCell ⟨u13.heap.size, 0, none⟩ (.int .i64 Q3.tx.1)).setCell ⟨u13.heap.size, 1, none⟩ (.int .i64 Q3.tx.2.1)).setCell ⟨u13.heap.size, 2, none⟩ (.int .i64 Q3.tx.2.2)).setCell ⟨u13.heap.size, 3, none⟩ (.int .i64 Q3.aud)).setCell ⟨u13.heap.size, 4, none⟩ (cv3b)).setCell ⟨u13.heap.size, 5, none⟩ (.int .i64 Q3.org)).setCell ⟨u13.heap.size, 6, none⟩ (.string ⟨Q3.body.toArray⟩)).setCell ⟨u13.heap.size, 7, none⟩ (.int .u8 Q3.st)).setCell ⟨u13.heap.size, 8, none⟩ (.string ⟨Q3.tag.toArray⟩)).setCell ⟨u13.heap.size, 9, none⟩ (.int .i64 Q3.sent)) = u14
  obtain ⟨b3b, hM_⟩ : u14.heap[u13.heap.size]? = some (.cells #[.int .i64 Q3.tx.1, .int .i64 Q3.tx.2.1, .int .i64 Q3.tx.2.2, .int .i64 Q3.aud, cv3b, .int .i64 Q3.org, .string ⟨Q3.body.toArray⟩, .int .u8 Q3.st, .string ⟨Q3.tag.toArray⟩, .int .i64 Q3.sent] 72 (0, 0)) ∧ Mod [] u13 u14 := by
    subst hW_
    exact ⟨st10 heapNew, modSet10 ((Mod.refl [] u13).alloc _) (.inr (Nat.le_refl _))⟩
  clear hW_
  replace hM0 := hM0.trans hM_ (by simp)
  replace bP := hM_.get bP (by simp)
  replace hin := hin.mod hM_
  replace oO := ownsRow_mod oO hM_ (by simp)
  replace bO := hM_.get bO (by simp)
  replace o1a := ownsRow_mod o1a hM_ (by simp)
  replace b1a := hM_.get b1a (by simp)
  replace o1b := ownsRow_mod o1b hM_ (by simp)
  replace b1b := hM_.get b1b (by simp)
  replace o2a := ownsRow_mod o2a hM_ (by simp)
  replace b2a := hM_.get b2a (by simp)
  replace o2b := ownsRow_mod o2b hM_ (by simp)
  replace b2b := hM_.get b2b (by simp)
  replace o3a := ownsRow_mod o3a hM_ (by simp)
  replace b3a := hM_.get b3a (by simp)
  replace o3b := ownsRow_mod o3b hM_ (by simp)
  generalize u13.heap.size = q3b at *
  refine hold_stop (s' := none) ?_
  refine hold_code okT (rs := [.tmp 10]) rfl ?_
  clear oc
  have c_bO := fun o => cellOf (o := o) bO
  simp (maxSteps := 1000000) (disch := first | omega | (simp only [sizeAlloc, sizeDrew, sizeSet, sizePut] <;> omega) | fail) only [GS, TT_eq, TTl, Nat.reduceAdd, Nat.reduceMul, Nat.reduceSub, Nat.reduceDiv, Nat.reduceMod, Nat.reducePow, Nat.reduceEqDiff, ↓reduceIte, reduceCtorEq, Int.reduceToNat, Int.reduceAdd, Int.reduceSub, Int.reduceMul, c_bO]
  refine ⟨fok60, hW1 _ _ (hin.new (Rd.own oO)) _ fun u15 hM_ => .inl ⟨_, rfl, hold_stop (s' := some 11) (hold_ops okT (rs := [.tmp 10]) rfl ?_)⟩⟩
  replace hM0 := hM0.trans hM_ (by simp)
  replace bP := hM_.get bP (by simp)
  replace hin := hin.mod hM_
  replace oO := ownsRow_mod oO hM_ (by simp)
  replace bO := hM_.get bO (by simp)
  replace o1a := ownsRow_mod o1a hM_ (by simp)
  replace b1a := hM_.get b1a (by simp)
  replace o1b := ownsRow_mod o1b hM_ (by simp)
  replace b1b := hM_.get b1b (by simp)
  replace o2a := ownsRow_mod o2a hM_ (by simp)
  replace b2a := hM_.get b2a (by simp)
  replace o2b := ownsRow_mod o2b hM_ (by simp)
  replace b2b := hM_.get b2b (by simp)
  replace o3a := ownsRow_mod o3a hM_ (by simp)
  replace b3a := hM_.get b3a (by simp)
  replace o3b := ownsRow_mod o3b hM_ (by simp)
  replace b3b := hM_.get b3b (by simp)
  simp (maxSteps := 1000000) (disch := first | omega | (simp only [sizeAlloc, sizeDrew, sizeSet, sizePut] <;> omega) | fail) only [GS, TT_eq, TTl, Nat.reduceAdd, Nat.reduceMul, Nat.reduceSub, Nat.reduceDiv, Nat.reduceMod, Nat.reducePow, Nat.reduceEqDiff, ↓reduceIte, reduceCtorEq, Int.reduceToNat, Int.reduceAdd, Int.reduceSub, Int.reduceMul]
  generalize hW_ : ((((((((((u15.alloc (.cells #[.int .u8 0, .int .i64 0, .int .i64 0, .int .i64 0, .int .i64 0, .slice none 0 0, .string ⟨#[]⟩, .bool false, .string ⟨#[]⟩] 35)).setCell ⟨u15.heap.size, 0, none⟩ (.int .u8 M.k)).setCell ⟨u15.heap.size, 1, none⟩ (.int .i64 M.tx.1)).setCell ⟨u15.heap.size, 2, none⟩ (.int .i64 M.tx.2.1)).setCell ⟨u15.heap.size, 3, none⟩ (.int .i64 M.tx.2.2)).setCell ⟨u15.heap.size, 4, none⟩ (.int .i64 M.aud)).setCell ⟨u15.heap.size, 5, none⟩ (.slice none 0 0)).setCell ⟨u15.heap.size, 6, none⟩ (.string ⟨M.body.toArray⟩)).setCell ⟨u15.heap.size, 7, none⟩ (.bool M.yes)).setCell ⟨u15.heap.size, 8, none⟩ (.string ⟨M.tag.toArray⟩)) = u16
  obtain ⟨bM, hM_⟩ : u16.heap[u15.heap.size]? = some (.cells #[.int .u8 M.k, .int .i64 M.tx.1, .int .i64 M.tx.2.1, .int .i64 M.tx.2.2, .int .i64 M.aud, .slice none 0 0, .string ⟨M.body.toArray⟩, .bool M.yes, .string ⟨M.tag.toArray⟩] 35 (0, 0)) ∧ Mod [] u15 u16 := by
    subst hW_
    exact ⟨st9p heapNew, modSet9p ((Mod.refl [] u15).alloc _) (.inr (Nat.le_refl _))⟩
  clear hW_
  replace hM0 := hM0.trans hM_ (by simp)
  replace bP := hM_.get bP (by simp)
  replace hin := hin.mod hM_
  replace oO := ownsRow_mod oO hM_ (by simp)
  replace bO := hM_.get bO (by simp)
  replace o1a := ownsRow_mod o1a hM_ (by simp)
  replace b1a := hM_.get b1a (by simp)
  replace o1b := ownsRow_mod o1b hM_ (by simp)
  replace b1b := hM_.get b1b (by simp)
  replace o2a := ownsRow_mod o2a hM_ (by simp)
  replace b2a := hM_.get b2a (by simp)
  replace o2b := ownsRow_mod o2b hM_ (by simp)
  replace b2b := hM_.get b2b (by simp)
  replace o3a := ownsRow_mod o3a hM_ (by simp)
  replace b3a := hM_.get b3a (by simp)
  replace o3b := ownsRow_mod o3b hM_ (by simp)
  replace b3b := hM_.get b3b (by simp)
  generalize u15.heap.size = qbM at *
  refine hold_stop (s' := none) ?_
  refine hold_code okT (rs := [.tmp 10]) rfl ?_
  have c_bP := fun o => cellOf (o := o) bP
  simp (maxSteps := 1000000) (disch := first | omega | (simp only [sizeAlloc, sizeDrew, sizeSet, sizePut] <;> omega) | fail) only [GS, TT_eq, TTl, Nat.reduceAdd, Nat.reduceMul, Nat.reduceSub, Nat.reduceDiv, Nat.reduceMod, Nat.reducePow, Nat.reduceEqDiff, ↓reduceIte, reduceCtorEq, Int.reduceToNat, Int.reduceAdd, Int.reduceSub, Int.reduceMul, c_bP]
  refine ⟨fok61, hW2 _ _ hin _ fun u17 hM_ => .inl ⟨_, rfl, hold_stop (s' := some 12) (hold_ops okT (rs := [.tmp 10]) rfl ?_)⟩⟩
  replace hM0 := hM0.trans hM_ (by simp)
  replace bP := hM_.get bP (by simp)
  replace hin := hin.mod hM_
  replace oO := ownsRow_mod oO hM_ (by simp)
  replace bO := hM_.get bO (by simp)
  replace o1a := ownsRow_mod o1a hM_ (by simp)
  replace b1a := hM_.get b1a (by simp)
  replace o1b := ownsRow_mod o1b hM_ (by simp)
  replace b1b := hM_.get b1b (by simp)
  replace o2a := ownsRow_mod o2a hM_ (by simp)
  replace b2a := hM_.get b2a (by simp)
  replace o2b := ownsRow_mod o2b hM_ (by simp)
  replace b2b := hM_.get b2b (by simp)
  replace o3a := ownsRow_mod o3a hM_ (by simp)
  replace b3a := hM_.get b3a (by simp)
  replace o3b := ownsRow_mod o3b hM_ (by simp)
  replace b3b := hM_.get b3b (by simp)
  replace bM := hM_.get bM (by simp)
  simp (maxSteps := 1000000) (disch := first | omega | (simp only [sizeAlloc, sizeDrew, sizeSet, sizePut] <;> omega) | fail) only [GS, TT_eq, TTl, Nat.reduceAdd, Nat.reduceMul, Nat.reduceSub, Nat.reduceDiv, Nat.reduceMod, Nat.reducePow, Nat.reduceEqDiff, ↓reduceIte, reduceCtorEq, Int.reduceToNat, Int.reduceAdd, Int.reduceSub, Int.reduceMul]
  generalize hW_ : ((((((((((u17.alloc (.cells #[.int .u8 0, .int .i64 0, .int .i64 0, .int .i64 0, .int .i64 0, .slice none 0 0, .string ⟨#[]⟩, .bool false, .string ⟨#[]⟩] 35)).setCell ⟨u17.heap.size, 0, none⟩ (.int .u8 M.k)).setCell ⟨u17.heap.size, 1, none⟩ (.int .i64 M.tx.1)).setCell ⟨u17.heap.size, 2, none⟩ (.int .i64 M.tx.2.1)).setCell ⟨u17.heap.size, 3, none⟩ (.int .i64 M.tx.2.2)).setCell ⟨u17.heap.size, 4, none⟩ (.int .i64 M.aud)).setCell ⟨u17.heap.size, 5, none⟩ (.slice none 0 0)).setCell ⟨u17.heap.size, 6, none⟩ (.string ⟨M.body.toArray⟩)).setCell ⟨u17.heap.size, 7, none⟩ (.bool M.yes)).setCell ⟨u17.heap.size, 8, none⟩ (.string ⟨M.tag.toArray⟩)) = u18
  obtain ⟨bN, hM_⟩ : u18.heap[u17.heap.size]? = some (.cells #[.int .u8 M.k, .int .i64 M.tx.1, .int .i64 M.tx.2.1, .int .i64 M.tx.2.2, .int .i64 M.aud, .slice none 0 0, .string ⟨M.body.toArray⟩, .bool M.yes, .string ⟨M.tag.toArray⟩] 35 (0, 0)) ∧ Mod [] u17 u18 := by
    subst hW_
    exact ⟨st9p heapNew, modSet9p ((Mod.refl [] u17).alloc _) (.inr (Nat.le_refl _))⟩
  clear hW_
  replace hM0 := hM0.trans hM_ (by simp)
  replace bP := hM_.get bP (by simp)
  replace hin := hin.mod hM_
  replace oO := ownsRow_mod oO hM_ (by simp)
  replace bO := hM_.get bO (by simp)
  replace o1a := ownsRow_mod o1a hM_ (by simp)
  replace b1a := hM_.get b1a (by simp)
  replace o1b := ownsRow_mod o1b hM_ (by simp)
  replace b1b := hM_.get b1b (by simp)
  replace o2a := ownsRow_mod o2a hM_ (by simp)
  replace b2a := hM_.get b2a (by simp)
  replace o2b := ownsRow_mod o2b hM_ (by simp)
  replace b2b := hM_.get b2b (by simp)
  replace o3a := ownsRow_mod o3a hM_ (by simp)
  replace b3a := hM_.get b3a (by simp)
  replace o3b := ownsRow_mod o3b hM_ (by simp)
  replace b3b := hM_.get b3b (by simp)
  replace bM := hM_.get bM (by simp)
  generalize u17.heap.size = qbN at *
  refine hold_stop (s' := none) ?_
  refine hold_code okT (rs := [.tmp 10]) rfl ?_
  have c_bM := fun o => cellOf (o := o) bM
  have c_bN := fun o => cellOf (o := o) bN
  simp (maxSteps := 1000000) (disch := first | omega | (simp only [sizeAlloc, sizeDrew, sizeSet, sizePut] <;> omega) | fail) only [GS, TT_eq, TTl, Nat.reduceAdd, Nat.reduceMul, Nat.reduceSub, Nat.reduceDiv, Nat.reduceMod, Nat.reducePow, Nat.reduceEqDiff, ↓reduceIte, reduceCtorEq, Int.reduceToNat, Int.reduceAdd, Int.reduceSub, Int.reduceMul, c_bM, c_bN, eq_self, pb2_self]
  have hS12 := fun sv tv w ha hb R hR => Same12_cps M M sv tv w R (by rw [hwm]; simp) ha hb hR
  rw [decide_eq_true (show SameP M M from ⟨rfl, rfl, rfl, rfl, rfl, rfl, rfl⟩)] at hS12
  unfold msgV msgC at hS12
  refine ⟨fok21, hS12 _ _ _ (by rw [hwm]; exact Rd.own (World.ownsRow_nil _ 0 0 _)) (by rw [hwm]; exact Rd.own (World.ownsRow_nil _ 0 0 _)) _ fun  u19 hM_ => .inl ⟨_, rfl, hold_ops okT (rs := [.tmp 10]) rfl ?_⟩⟩
  replace hM0 := hM0.trans hM_ (by simp)
  replace bP := hM_.get bP (by simp)
  replace hin := hin.mod hM_
  replace oO := ownsRow_mod oO hM_ (by simp)
  replace bO := hM_.get bO (by simp)
  replace o1a := ownsRow_mod o1a hM_ (by simp)
  replace b1a := hM_.get b1a (by simp)
  replace o1b := ownsRow_mod o1b hM_ (by simp)
  replace b1b := hM_.get b1b (by simp)
  replace o2a := ownsRow_mod o2a hM_ (by simp)
  replace b2a := hM_.get b2a (by simp)
  replace o2b := ownsRow_mod o2b hM_ (by simp)
  replace b2b := hM_.get b2b (by simp)
  replace o3a := ownsRow_mod o3a hM_ (by simp)
  replace b3a := hM_.get b3a (by simp)
  replace o3b := ownsRow_mod o3b hM_ (by simp)
  replace b3b := hM_.get b3b (by simp)
  replace bM := hM_.get bM (by simp)
  replace bN := hM_.get bN (by simp)
  have c_bO := fun o => cellOf (o := o) bO
  have c_bP := fun o => cellOf (o := o) bP
  simp (maxSteps := 1000000) (disch := first | omega | (simp only [sizeAlloc, sizeDrew, sizeSet, sizePut] <;> omega) | fail) only [GS, TT_eq, TTl, Nat.reduceAdd, Nat.reduceMul, Nat.reduceSub, Nat.reduceDiv, Nat.reduceMod, Nat.reducePow, Nat.reduceEqDiff, ↓reduceIte, reduceCtorEq, Int.reduceToNat, Int.reduceAdd, Int.reduceSub, Int.reduceMul, c_bO, c_bP]
  refine ⟨fok62, hS0 _ _ _ (Rd.own oO) hin.rd _ fun  u20 hM_ => .inl ⟨_, rfl, hold_ops okT (rs := [.tmp 10]) rfl ?_⟩⟩
  replace hM0 := hM0.trans hM_ (by simp)
  replace bP := hM_.get bP (by simp)
  replace hin := hin.mod hM_
  replace oO := ownsRow_mod oO hM_ (by simp)
  replace bO := hM_.get bO (by simp)
  replace o1a := ownsRow_mod o1a hM_ (by simp)
  replace b1a := hM_.get b1a (by simp)
  replace o1b := ownsRow_mod o1b hM_ (by simp)
  replace b1b := hM_.get b1b (by simp)
  replace o2a := ownsRow_mod o2a hM_ (by simp)
  replace b2a := hM_.get b2a (by simp)
  replace o2b := ownsRow_mod o2b hM_ (by simp)
  replace b2b := hM_.get b2b (by simp)
  replace o3a := ownsRow_mod o3a hM_ (by simp)
  replace b3a := hM_.get b3a (by simp)
  replace o3b := ownsRow_mod o3b hM_ (by simp)
  replace b3b := hM_.get b3b (by simp)
  replace bM := hM_.get bM (by simp)
  replace bN := hM_.get bN (by simp)
  simp (maxSteps := 1000000) (disch := first | omega | (simp only [sizeAlloc, sizeDrew, sizeSet, sizePut] <;> omega) | fail) only [GS, TT_eq, TTl, Nat.reduceAdd, Nat.reduceMul, Nat.reduceSub, Nat.reduceDiv, Nat.reduceMod, Nat.reducePow, Nat.reduceEqDiff, ↓reduceIte, reduceCtorEq, Int.reduceToNat, Int.reduceAdd, Int.reduceSub, Int.reduceMul]
  refine hold_draw okT (rs := [.tmp 10]) rfl [0, 0, 3, 7, 15, 15, 63, 127, 255, 511, 511, 2047, 4095, 8191, 16383, 16383, 16383, 131071, 16383, 16383, 16383, 2097151, 4194303, 8388607, 16777215, 33554431, 67108863, 134217727] [0, 1, 2, 3, 4, 5, 6, 7, 8, 9, 10, 11, 12, 13, 14, 15, 16, 18, 19, 20, 17, 21, 22, 23, 24, 25, 26, 27] (by kernel_rfl) (by kernel_rfl) ?_
  have hM_ := (Mod.refl [] u20).drewN 1
  generalize u20.drewN 1 = u21 at *
  replace hM0 := hM0.trans hM_ (by simp)
  replace bP := hM_.get bP (by simp)
  replace hin := hin.mod hM_
  replace oO := ownsRow_mod oO hM_ (by simp)
  replace bO := hM_.get bO (by simp)
  replace o1a := ownsRow_mod o1a hM_ (by simp)
  replace b1a := hM_.get b1a (by simp)
  replace o1b := ownsRow_mod o1b hM_ (by simp)
  replace b1b := hM_.get b1b (by simp)
  replace o2a := ownsRow_mod o2a hM_ (by simp)
  replace b2a := hM_.get b2a (by simp)
  replace o2b := ownsRow_mod o2b hM_ (by simp)
  replace b2b := hM_.get b2b (by simp)
  replace o3a := ownsRow_mod o3a hM_ (by simp)
  replace b3a := hM_.get b3a (by simp)
  replace o3b := ownsRow_mod o3b hM_ (by simp)
  replace b3b := hM_.get b3b (by simp)
  replace bM := hM_.get bM (by simp)
  replace bN := hM_.get bN (by simp)
  have c_bP := fun o => cellOf (o := o) bP
  have c_bO := fun o => cellOf (o := o) bO
  have c_b1a := fun o => cellOf (o := o) b1a
  have c_b1b := fun o => cellOf (o := o) b1b
  have c_b2a := fun o => cellOf (o := o) b2a
  have c_b2b := fun o => cellOf (o := o) b2b
  have c_b3a := fun o => cellOf (o := o) b3a
  have c_b3b := fun o => cellOf (o := o) b3b
  simp (maxSteps := 1000000) (disch := first | omega | (simp only [sizeAlloc, sizeDrew, sizeSet, sizePut] <;> omega) | fail) only [GS, TT_eq, TTl, Nat.reduceAdd, Nat.reduceMul, Nat.reduceSub, Nat.reduceDiv, Nat.reduceMod, Nat.reducePow, Nat.reduceEqDiff, ↓reduceIte, reduceCtorEq, Int.reduceToNat, Int.reduceAdd, Int.reduceSub, Int.reduceMul, c_bP, c_bO, c_b1a, c_b1b, c_b2a, c_b2b, c_b3a, c_b3b, eq_self, pb2_self]
  refine ⟨fok62, hS1 _ _ _ (Rd.own o1a) (Rd.own o1b) _ fun  u22 hM_ => .inl ⟨_, rfl, ?_⟩⟩
  first | refine hold_dops okT (rs := [.tmp 10]) rfl ?_ | refine ⟨(by repeat' (first | exact agg10p bP hM_ | exact agg10p bO hM_ | exact agg10p b1a hM_ | exact agg10p b1b hM_ | exact agg10p b2a hM_ | exact agg10p b2b hM_ | exact agg10p b3a hM_ | exact agg10p b3b hM_ | apply And.intro)), hold_dops okT (rs := [.tmp 10]) rfl ?_⟩
  replace hM0 := hM0.trans hM_ (by simp)
  replace bP := hM_.get bP (by simp)
  replace hin := hin.mod hM_
  replace oO := ownsRow_mod oO hM_ (by simp)
  replace bO := hM_.get bO (by simp)
  replace o1a := ownsRow_mod o1a hM_ (by simp)
  replace b1a := hM_.get b1a (by simp)
  replace o1b := ownsRow_mod o1b hM_ (by simp)
  replace b1b := hM_.get b1b (by simp)
  replace o2a := ownsRow_mod o2a hM_ (by simp)
  replace b2a := hM_.get b2a (by simp)
  replace o2b := ownsRow_mod o2b hM_ (by simp)
  replace b2b := hM_.get b2b (by simp)
  replace o3a := ownsRow_mod o3a hM_ (by simp)
  replace b3a := hM_.get b3a (by simp)
  replace o3b := ownsRow_mod o3b hM_ (by simp)
  replace b3b := hM_.get b3b (by simp)
  replace bM := hM_.get bM (by simp)
  replace bN := hM_.get bN (by simp)
  clear c_bP c_bO c_b1a c_b1b c_b2a c_b2b c_b3a c_b3b
  have c_bP := fun o => cellOf (o := o) bP
  have c_bO := fun o => cellOf (o := o) bO
  have c_b1a := fun o => cellOf (o := o) b1a
  have c_b1b := fun o => cellOf (o := o) b1b
  have c_b2a := fun o => cellOf (o := o) b2a
  have c_b2b := fun o => cellOf (o := o) b2b
  have c_b3a := fun o => cellOf (o := o) b3a
  have c_b3b := fun o => cellOf (o := o) b3b
  simp (maxSteps := 1000000) (disch := first | omega | (simp only [sizeAlloc, sizeDrew, sizeSet, sizePut] <;> omega) | fail) only [GS, TT_eq, TTl, Nat.reduceAdd, Nat.reduceMul, Nat.reduceSub, Nat.reduceDiv, Nat.reduceMod, Nat.reducePow, Nat.reduceEqDiff, ↓reduceIte, reduceCtorEq, Int.reduceToNat, Int.reduceAdd, Int.reduceSub, Int.reduceMul, c_bP, c_bO, c_b1a, c_b1b, c_b2a, c_b2b, c_b3a, c_b3b, eq_self, pb2_self]
  refine ⟨fok62, hS2 _ _ _ (Rd.own o2a) (Rd.own o2b) _ fun  u23 hM_ => .inl ⟨_, rfl, ?_⟩⟩
  first | refine hold_dops okT (rs := [.tmp 10]) rfl ?_ | refine ⟨(by repeat' (first | exact agg10p bP hM_ | exact agg10p bO hM_ | exact agg10p b1a hM_ | exact agg10p b1b hM_ | exact agg10p b2a hM_ | exact agg10p b2b hM_ | exact agg10p b3a hM_ | exact agg10p b3b hM_ | apply And.intro)), hold_dops okT (rs := [.tmp 10]) rfl ?_⟩
  replace hM0 := hM0.trans hM_ (by simp)
  replace bP := hM_.get bP (by simp)
  replace hin := hin.mod hM_
  replace oO := ownsRow_mod oO hM_ (by simp)
  replace bO := hM_.get bO (by simp)
  replace o1a := ownsRow_mod o1a hM_ (by simp)
  replace b1a := hM_.get b1a (by simp)
  replace o1b := ownsRow_mod o1b hM_ (by simp)
  replace b1b := hM_.get b1b (by simp)
  replace o2a := ownsRow_mod o2a hM_ (by simp)
  replace b2a := hM_.get b2a (by simp)
  replace o2b := ownsRow_mod o2b hM_ (by simp)
  replace b2b := hM_.get b2b (by simp)
  replace o3a := ownsRow_mod o3a hM_ (by simp)
  replace b3a := hM_.get b3a (by simp)
  replace o3b := ownsRow_mod o3b hM_ (by simp)
  replace b3b := hM_.get b3b (by simp)
  replace bM := hM_.get bM (by simp)
  replace bN := hM_.get bN (by simp)
  clear c_bP c_bO c_b1a c_b1b c_b2a c_b2b c_b3a c_b3b
  have c_bP := fun o => cellOf (o := o) bP
  have c_bO := fun o => cellOf (o := o) bO
  have c_b1a := fun o => cellOf (o := o) b1a
  have c_b1b := fun o => cellOf (o := o) b1b
  have c_b2a := fun o => cellOf (o := o) b2a
  have c_b2b := fun o => cellOf (o := o) b2b
  have c_b3a := fun o => cellOf (o := o) b3a
  have c_b3b := fun o => cellOf (o := o) b3b
  simp (maxSteps := 1000000) (disch := first | omega | (simp only [sizeAlloc, sizeDrew, sizeSet, sizePut] <;> omega) | fail) only [GS, TT_eq, TTl, Nat.reduceAdd, Nat.reduceMul, Nat.reduceSub, Nat.reduceDiv, Nat.reduceMod, Nat.reducePow, Nat.reduceEqDiff, ↓reduceIte, reduceCtorEq, Int.reduceToNat, Int.reduceAdd, Int.reduceSub, Int.reduceMul, c_bP, c_bO, c_b1a, c_b1b, c_b2a, c_b2b, c_b3a, c_b3b, eq_self, pb2_self]
  refine ⟨fok62, hS3 _ _ _ (Rd.own o3a) (Rd.own o3b) _ fun  u24 hM_ => .inl ⟨_, rfl, ?_⟩⟩
  first | refine hold_dops okT (rs := [.tmp 10]) rfl ?_ | refine ⟨(by repeat' (first | exact agg10p bP hM_ | exact agg10p bO hM_ | exact agg10p b1a hM_ | exact agg10p b1b hM_ | exact agg10p b2a hM_ | exact agg10p b2b hM_ | exact agg10p b3a hM_ | exact agg10p b3b hM_ | apply And.intro)), hold_dops okT (rs := [.tmp 10]) rfl ?_⟩
  replace hM0 := hM0.trans hM_ (by simp)
  replace bP := hM_.get bP (by simp)
  replace hin := hin.mod hM_
  replace oO := ownsRow_mod oO hM_ (by simp)
  replace bO := hM_.get bO (by simp)
  replace o1a := ownsRow_mod o1a hM_ (by simp)
  replace b1a := hM_.get b1a (by simp)
  replace o1b := ownsRow_mod o1b hM_ (by simp)
  replace b1b := hM_.get b1b (by simp)
  replace o2a := ownsRow_mod o2a hM_ (by simp)
  replace b2a := hM_.get b2a (by simp)
  replace o2b := ownsRow_mod o2b hM_ (by simp)
  replace b2b := hM_.get b2b (by simp)
  replace o3a := ownsRow_mod o3a hM_ (by simp)
  replace b3a := hM_.get b3a (by simp)
  replace o3b := ownsRow_mod o3b hM_ (by simp)
  replace b3b := hM_.get b3b (by simp)
  replace bM := hM_.get bM (by simp)
  replace bN := hM_.get bN (by simp)
  clear c_bP c_bO c_b1a c_b1b c_b2a c_b2b c_b3a c_b3b
  have c_bP := fun o => cellOf (o := o) bP
  have c_bO := fun o => cellOf (o := o) bO
  have c_b1a := fun o => cellOf (o := o) b1a
  have c_b1b := fun o => cellOf (o := o) b1b
  have c_b2a := fun o => cellOf (o := o) b2a
  have c_b2b := fun o => cellOf (o := o) b2b
  have c_b3a := fun o => cellOf (o := o) b3a
  have c_b3b := fun o => cellOf (o := o) b3b
  simp (maxSteps := 1000000) (disch := first | omega | (simp only [sizeAlloc, sizeDrew, sizeSet, sizePut] <;> omega) | fail) only [GS, TT_eq, TTl, Nat.reduceAdd, Nat.reduceMul, Nat.reduceSub, Nat.reduceDiv, Nat.reduceMod, Nat.reducePow, Nat.reduceEqDiff, ↓reduceIte, reduceCtorEq, Int.reduceToNat, Int.reduceAdd, Int.reduceSub, Int.reduceMul, c_bP, c_bO, c_b1a, c_b1b, c_b2a, c_b2b, c_b3a, c_b3b, eq_self, pb2_self]
  refine ⟨fok63, hD1 _ _ (hin.new (Rd.own oO)) _ fun  u25 hM_ => .inl ⟨_, rfl, ?_⟩⟩
  first | refine hold_dops okT (rs := [.tmp 10]) rfl ?_ | refine ⟨(by repeat' (first | exact agg10p bP hM_ | exact agg10p bO hM_ | exact agg10p b1a hM_ | exact agg10p b1b hM_ | exact agg10p b2a hM_ | exact agg10p b2b hM_ | exact agg10p b3a hM_ | exact agg10p b3b hM_ | apply And.intro)), hold_dops okT (rs := [.tmp 10]) rfl ?_⟩
  replace hM0 := hM0.trans hM_ (by simp)
  replace bP := hM_.get bP (by simp)
  replace hin := hin.mod hM_
  replace oO := ownsRow_mod oO hM_ (by simp)
  replace bO := hM_.get bO (by simp)
  replace o1a := ownsRow_mod o1a hM_ (by simp)
  replace b1a := hM_.get b1a (by simp)
  replace o1b := ownsRow_mod o1b hM_ (by simp)
  replace b1b := hM_.get b1b (by simp)
  replace o2a := ownsRow_mod o2a hM_ (by simp)
  replace b2a := hM_.get b2a (by simp)
  replace o2b := ownsRow_mod o2b hM_ (by simp)
  replace b2b := hM_.get b2b (by simp)
  replace o3a := ownsRow_mod o3a hM_ (by simp)
  replace b3a := hM_.get b3a (by simp)
  replace o3b := ownsRow_mod o3b hM_ (by simp)
  replace b3b := hM_.get b3b (by simp)
  replace bM := hM_.get bM (by simp)
  replace bN := hM_.get bN (by simp)
  clear c_bP c_bO c_b1a c_b1b c_b2a c_b2b c_b3a c_b3b
  have c_bP := fun o => cellOf (o := o) bP
  have c_bO := fun o => cellOf (o := o) bO
  have c_b1a := fun o => cellOf (o := o) b1a
  have c_b1b := fun o => cellOf (o := o) b1b
  have c_b2a := fun o => cellOf (o := o) b2a
  have c_b2b := fun o => cellOf (o := o) b2b
  have c_b3a := fun o => cellOf (o := o) b3a
  have c_b3b := fun o => cellOf (o := o) b3b
  simp (maxSteps := 1000000) (disch := first | omega | (simp only [sizeAlloc, sizeDrew, sizeSet, sizePut] <;> omega) | fail) only [GS, TT_eq, TTl, Nat.reduceAdd, Nat.reduceMul, Nat.reduceSub, Nat.reduceDiv, Nat.reduceMod, Nat.reducePow, Nat.reduceEqDiff, ↓reduceIte, reduceCtorEq, Int.reduceToNat, Int.reduceAdd, Int.reduceSub, Int.reduceMul, c_bP, c_bO, c_b1a, c_b1b, c_b2a, c_b2b, c_b3a, c_b3b, eq_self, pb2_self]
  refine ⟨fok64, hD2 _ _ hin _ fun  u26 hM_ => .inl ⟨_, rfl, ?_⟩⟩
  first | refine hold_dops okT (rs := [.tmp 10]) rfl ?_ | refine ⟨(by repeat' (first | exact agg10p bP hM_ | exact agg10p bO hM_ | exact agg10p b1a hM_ | exact agg10p b1b hM_ | exact agg10p b2a hM_ | exact agg10p b2b hM_ | exact agg10p b3a hM_ | exact agg10p b3b hM_ | apply And.intro)), hold_dops okT (rs := [.tmp 10]) rfl ?_⟩
  replace hM0 := hM0.trans hM_ (by simp)
  replace bP := hM_.get bP (by simp)
  replace hin := hin.mod hM_
  replace oO := ownsRow_mod oO hM_ (by simp)
  replace bO := hM_.get bO (by simp)
  replace o1a := ownsRow_mod o1a hM_ (by simp)
  replace b1a := hM_.get b1a (by simp)
  replace o1b := ownsRow_mod o1b hM_ (by simp)
  replace b1b := hM_.get b1b (by simp)
  replace o2a := ownsRow_mod o2a hM_ (by simp)
  replace b2a := hM_.get b2a (by simp)
  replace o2b := ownsRow_mod o2b hM_ (by simp)
  replace b2b := hM_.get b2b (by simp)
  replace o3a := ownsRow_mod o3a hM_ (by simp)
  replace b3a := hM_.get b3a (by simp)
  replace o3b := ownsRow_mod o3b hM_ (by simp)
  replace b3b := hM_.get b3b (by simp)
  replace bM := hM_.get bM (by simp)
  replace bN := hM_.get bN (by simp)
  clear c_bP c_bO c_b1a c_b1b c_b2a c_b2b c_b3a c_b3b
  have c_bP := fun o => cellOf (o := o) bP
  have c_bO := fun o => cellOf (o := o) bO
  have c_b1a := fun o => cellOf (o := o) b1a
  have c_b1b := fun o => cellOf (o := o) b1b
  have c_b2a := fun o => cellOf (o := o) b2a
  have c_b2b := fun o => cellOf (o := o) b2b
  have c_b3a := fun o => cellOf (o := o) b3a
  have c_b3b := fun o => cellOf (o := o) b3b
  simp (maxSteps := 1000000) (disch := first | omega | (simp only [sizeAlloc, sizeDrew, sizeSet, sizePut] <;> omega) | fail) only [GS, TT_eq, TTl, Nat.reduceAdd, Nat.reduceMul, Nat.reduceSub, Nat.reduceDiv, Nat.reduceMod, Nat.reducePow, Nat.reduceEqDiff, ↓reduceIte, reduceCtorEq, Int.reduceToNat, Int.reduceAdd, Int.reduceSub, Int.reduceMul, c_bP, c_bO, c_b1a, c_b1b, c_b2a, c_b2b, c_b3a, c_b3b, eq_self, pb2_self]
  refine ⟨fok52, alive23_cps _ _ fun  u27 hM_ => .inl ⟨_, rfl, ?_⟩⟩
  first | refine hold_dops okT (rs := [.tmp 10]) rfl ?_ | refine ⟨(by repeat' (first | exact agg10p bP hM_ | exact agg10p bO hM_ | exact agg10p b1a hM_ | exact agg10p b1b hM_ | exact agg10p b2a hM_ | exact agg10p b2b hM_ | exact agg10p b3a hM_ | exact agg10p b3b hM_ | apply And.intro)), hold_dops okT (rs := [.tmp 10]) rfl ?_⟩
  replace hM0 := hM0.trans hM_ (by simp)
  replace bP := hM_.get bP (by simp)
  replace hin := hin.mod hM_
  replace oO := ownsRow_mod oO hM_ (by simp)
  replace bO := hM_.get bO (by simp)
  replace o1a := ownsRow_mod o1a hM_ (by simp)
  replace b1a := hM_.get b1a (by simp)
  replace o1b := ownsRow_mod o1b hM_ (by simp)
  replace b1b := hM_.get b1b (by simp)
  replace o2a := ownsRow_mod o2a hM_ (by simp)
  replace b2a := hM_.get b2a (by simp)
  replace o2b := ownsRow_mod o2b hM_ (by simp)
  replace b2b := hM_.get b2b (by simp)
  replace o3a := ownsRow_mod o3a hM_ (by simp)
  replace b3a := hM_.get b3a (by simp)
  replace o3b := ownsRow_mod o3b hM_ (by simp)
  replace b3b := hM_.get b3b (by simp)
  replace bM := hM_.get bM (by simp)
  replace bN := hM_.get bN (by simp)
  simp (maxSteps := 1000000) (disch := first | omega | (simp only [sizeAlloc, sizeDrew, sizeSet, sizePut] <;> omega) | fail) only [GS, TT_eq, TTl, Nat.reduceAdd, Nat.reduceMul, Nat.reduceSub, Nat.reduceDiv, Nat.reduceMod, Nat.reducePow, Nat.reduceEqDiff, ↓reduceIte, reduceCtorEq, Int.reduceToNat, Int.reduceAdd, Int.reduceSub, Int.reduceMul, eq_self, pb2_self]
  exact hR _ hM0
end Go.Proofs.YtpcilobbohokcaaGreat
