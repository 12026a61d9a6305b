/-
  PartBegins (walk).
-/
import Derived.Test.YtpcilobbohokcaaGreatPbgParF
set_option linter.unusedSimpArgs false
set_option linter.unusedVariables false
set_option maxRecDepth 20000
namespace Go.Proofs.YtpcilobbohokcaaGreat
open Go Go.Wk Go.RowKit
attribute [local irreducible] go Hold
open Go.Lib
theorem new_mbs {m : Msg} {k : Nat} {o : Int} {b : List UInt8} {q : Pt} (h : newE m k o b = .ok q) : q.mbs = (newP m o b).mbs := by
  unfold newE at h
  split at h
  · simp only [Except.ok.injEq] at h; subst h; rfl
  · simp at h
theorem bal_len {p : Pt} (h : p.mbs.length ≤ 1000000) : (balE p).1.2.2.1.length ≤ 1000000 := by
  unfold balE
  split
  · exact h
  · simp
theorem msgIn_mg {w : World} {m : Msg} {sa : Value} (h : MsgIn w m sa) (hl : longB m.mbs = false) : ∃ k, MgIn w m k sa := by
  obtain ⟨k, h1, h2⟩ := h.kind
  have := longB_is hl
  exact ⟨k, h1, h2, h.body, h.tag, by omega, h.mbs.dig, h.mbs.rd⟩
theorem MsgIn.mod {w w' : World} {m : Msg} {sa : Value} (h : MsgIn w m sa) (hM : Mod [] w w') : MsgIn w' m sa := ⟨h.kind, h.t1, h.t2, h.t3, h.aud, ⟨h.mbs.rd.mod hM (by simp), h.mbs.len, h.mbs.dig, h.mbs.org⟩, h.body, h.tag⟩
set_option maxRecDepth 20000 in
set_option maxHeartbeats 8000000 in
theorem balSame_cps (x : Tx) (aud : Int) (o : Int) (l : List Mb) (v1 v2 : Value) (w : World) (hl : l.length ≤ 1000000) (ha : Rd w 2 v1 l.length (l.flatMap mbC)) (hb : Rd w 2 v2 l.length (l.flatMap mbC)) (R : Ending → World → Prop) (hR : ∀ w', Mod [] w w' → R (.returned (.bool true)) w') :
    Calls Tryz.prog 36 #[balV x aud v1 o, balV x aud v2 o] w R := by
  have os1 : v1.oneCell' = true := by obtain ⟨a, c, e⟩ := ha.slice; rw [e]; rfl
  have os2 : v2.oneCell' = true := by obtain ⟨a, c, e⟩ := hb.slice; rw [e]; rfl
  obtain ⟨xa, xb, xc⟩ := x
  unfold balV
  simp only
  refine calls_go 4000 okT Tryz.func36 rfl (rs := [.tmp 4]) rfl Tryz.ntmps36 (args := [.agg #[.int .i64 xa, .int .i64 xb, .int .i64 xc, .int .i64 aud, v1, .int .i64 o], .agg #[.int .i64 xa, .int .i64 xb, .int .i64 xc, .int .i64 aud, v2, .int .i64 o]]) ?_
  simp (maxSteps := 1000000) (disch := first | omega | (simp only [sizeAlloc, sizeDrew, sizeSet, sizePut] <;> omega) | fail) only [GS, TT_eq, TTl, Nat.reduceAdd, Nat.reduceMul, Nat.reduceSub, Nat.reduceDiv, Nat.reduceMod, Nat.reducePow, Nat.reduceEqDiff, ↓reduceIte, reduceCtorEq, Int.reduceToNat, Int.reduceAdd, Int.reduceSub, Int.reduceMul, eq_self, os1, os2, cellsL_one os1, cellsL_one os2]
  generalize hW : (w.alloc (.cells #[.int .i64 xa, .int .i64 xb, .int .i64 xc, .int .i64 aud, v1, .int .i64 o] 56)).alloc (.cells #[.int .i64 xa, .int .i64 xb, .int .i64 xc, .int .i64 aud, v2, .int .i64 o] 56) = w1
  have hM0 : Mod [] w w1 := by subst hW; exact ((Mod.refl [] w).alloc _).alloc _
  clear hW
  refine ⟨fok50, SameM_cps v1 v2 l l _ _ hl (ha.mod hM0 (by simp)) (hb.mod hM0 (by simp)) fun w2 hM2 => .inl ⟨_, rfl, hold_ops okT (rs := [.tmp 4]) rfl ?_⟩⟩
  rw [decide_eq_true (rfl : l = l)]
  simp (maxSteps := 1000000) (disch := first | omega | (simp only [sizeAlloc, sizeDrew, sizeSet, sizePut] <;> omega) | fail) only [GS, TT_eq, TTl, Nat.reduceAdd, Nat.reduceMul, Nat.reduceSub, Nat.reduceDiv, Nat.reduceMod, Nat.reducePow, Nat.reduceEqDiff, ↓reduceIte, reduceCtorEq, Int.reduceToNat, Int.reduceAdd, Int.reduceSub, Int.reduceMul]
  exact hR _ (hM0.trans hM2 (by simp))
set_option maxRecDepth 20000 in
set_option maxHeartbeats 64000000 in
theorem begins_cps (p : Pt) (ms : Value) (m : Msg) (sa : Value) (org : Int) (body : List UInt8) (w : World) (hb : body.length ≤ maxLen) (ha : PtArg w p ms) (hm : MsgIn w m sa) (R : Ending → World → Prop) (hR : ∀ w', Mod [] w w' → R (.returned (.bool true)) w') :
    Calls Tryz.prog 9 #[ptV p ms, msgV m sa, .int .i64 org, .string ⟨body.toArray⟩] w R := by
  have os : ms.oneCell' = true := by obtain ⟨a, c, e⟩ := ha.mbs.rd.slice; rw [e]; rfl
  have oa : sa.oneCell' = true := by obtain ⟨a, c, e⟩ := hm.mbs.rd.slice; rw [e]; rfl
  have hLg := fun w h => Long23_cps p ms w h
  unfold ptV ptC at hLg ⊢
  unfold msgV msgC
  refine calls_go 4000 okT Tryz.func9 rfl (rs := [.tmp 8]) rfl Tryz.ntmps9 (args := [.agg #[.int .i64 p.tx.1, .int .i64 p.tx.2.1, .int .i64 p.tx.2.2, .int .i64 p.aud, ms, .int .i64 p.org, .string ⟨p.body.toArray⟩, .int .u8 p.st, .string ⟨p.tag.toArray⟩, .int .i64 p.sent], .agg #[.int .u8 m.k, .int .i64 m.tx.1, .int .i64 m.tx.2.1, .int .i64 m.tx.2.2, .int .i64 m.aud, sa, .string ⟨m.body.toArray⟩, .bool m.yes, .string ⟨m.tag.toArray⟩], .int .i64 org, .string ⟨body.toArray⟩]) ?_
  simp (maxSteps := 1000000) (disch := first | omega | (simp only [sizeAlloc, sizeDrew, sizeSet, sizePut] <;> omega) | fail) only [GS, TT_eq, TTl, Nat.reduceAdd, Nat.reduceMul, Nat.reduceSub, Nat.reduceDiv, Nat.reduceMod, Nat.reducePow, Nat.reduceEqDiff, ↓reduceIte, reduceCtorEq, Int.reduceToNat, Int.reduceAdd, Int.reduceSub, Int.reduceMul, os, cellsL_one os, oa, cellsL_one oa]
  generalize hW : (w.alloc (.cells #[.int .i64 p.tx.1, .int .i64 p.tx.2.1, .int .i64 p.tx.2.2, .int .i64 p.aud, ms, .int .i64 p.org, .string ⟨p.body.toArray⟩, .int .u8 p.st, .string ⟨p.tag.toArray⟩, .int .i64 p.sent] 72)).alloc (.cells #[.int .u8 m.k, .int .i64 m.tx.1, .int .i64 m.tx.2.1, .int .i64 m.tx.2.2, .int .i64 m.aud, sa, .string ⟨m.body.toArray⟩, .bool m.yes, .string ⟨m.tag.toArray⟩] 35) = w1
  obtain ⟨bP, bG, hM0⟩ := two10 hW
  clear hW
  generalize hn : w.heap.size = n at *
  replace ha := ha.mod hM0
  replace hm := MsgIn.mod hm hM0
  refine ⟨fok51, hLg _ ha _ fun u0 hM_ => .inl ⟨_, rfl, hold_ops okT (rs := [.tmp 8]) rfl ?_⟩⟩
  replace ha := ha.mod hM_
  replace hm := MsgIn.mod hm hM_
  replace bP := hM_.get bP (by simp)
  replace bG := hM_.get bG (by simp)
  replace hM0 := hM0.trans hM_ (by simp)
  clear hLg
  cases hl : longPt p
  rotate_left
  · simp (maxSteps := 1000000) (disch := first | omega | (simp only [sizeAlloc, sizeDrew, sizeSet, sizePut] <;> omega) | fail) only [GS, TT_eq, TTl, Nat.reduceAdd, Nat.reduceMul, Nat.reduceSub, Nat.reduceDiv, Nat.reduceMod, Nat.reducePow, Nat.reduceEqDiff, ↓reduceIte, reduceCtorEq, Int.reduceToNat, Int.reduceAdd, Int.reduceSub, Int.reduceMul]
    refine ⟨fok52, alive23_cps _ _ fun w30 hM30 => .inl ⟨_, rfl, hold_ops okT (rs := [.tmp 8]) rfl ?_⟩⟩
    simp (maxSteps := 1000000) (disch := first | omega | (simp only [sizeAlloc, sizeDrew, sizeSet, sizePut] <;> omega) | fail) only [GS, TT_eq, TTl, Nat.reduceAdd, Nat.reduceMul, Nat.reduceSub, Nat.reduceDiv, Nat.reduceMod, Nat.reducePow, Nat.reduceEqDiff, ↓reduceIte, reduceCtorEq, Int.reduceToNat, Int.reduceAdd, Int.reduceSub, Int.reduceMul]
    exact hR _ (hM0.trans hM30 (by simp))
  have cG := fun o => cellOf (o := o) bG
  simp (maxSteps := 1000000) (disch := first | omega | (simp only [sizeAlloc, sizeDrew, sizeSet, sizePut] <;> omega) | fail) only [GS, TT_eq, TTl, Nat.reduceAdd, Nat.reduceMul, Nat.reduceSub, Nat.reduceDiv, Nat.reduceMod, Nat.reducePow, Nat.reduceEqDiff, ↓reduceIte, reduceCtorEq, Int.reduceToNat, Int.reduceAdd, Int.reduceSub, Int.reduceMul, cG]
  refine ⟨fok37, Long12_cps sa m.mbs _ _ hm.mbs.len hm.mbs.dig hm.mbs.rd (.inl ⟨_, rfl, hold_ops okT (rs := [.tmp 8]) rfl ?_⟩)⟩
  cases hml : longB m.mbs
  rotate_left
  · simp (maxSteps := 1000000) (disch := first | omega | (simp only [sizeAlloc, sizeDrew, sizeSet, sizePut] <;> omega) | fail) only [GS, TT_eq, TTl, Nat.reduceAdd, Nat.reduceMul, Nat.reduceSub, Nat.reduceDiv, Nat.reduceMod, Nat.reducePow, Nat.reduceEqDiff, ↓reduceIte, reduceCtorEq, Int.reduceToNat, Int.reduceAdd, Int.reduceSub, Int.reduceMul]
    refine ⟨fok52, alive23_cps _ _ fun w30 hM30 => .inl ⟨_, rfl, hold_ops okT (rs := [.tmp 8]) rfl ?_⟩⟩
    simp (maxSteps := 1000000) (disch := first | omega | (simp only [sizeAlloc, sizeDrew, sizeSet, sizePut] <;> omega) | fail) only [GS, TT_eq, TTl, Nat.reduceAdd, Nat.reduceMul, Nat.reduceSub, Nat.reduceDiv, Nat.reduceMod, Nat.reducePow, Nat.reduceEqDiff, ↓reduceIte, reduceCtorEq, Int.reduceToNat, Int.reduceAdd, Int.reduceSub, Int.reduceMul]
    exact hR _ (hM0.trans hM30 (by simp))
  by_cases hb1 : (20000 : Int) < ((m.body.length : Nat) : Int)
  · simp (maxSteps := 1000000) (disch := first | omega | (simp only [sizeAlloc, sizeDrew, sizeSet, sizePut] <;> omega) | fail) only [GS, TT_eq, TTl, Nat.reduceAdd, Nat.reduceMul, Nat.reduceSub, Nat.reduceDiv, Nat.reduceMod, Nat.reducePow, Nat.reduceEqDiff, ↓reduceIte, reduceCtorEq, Int.reduceToNat, Int.reduceAdd, Int.reduceSub, Int.reduceMul, cG, hb1]
    refine ⟨fok52, alive23_cps _ _ fun w30 hM30 => .inl ⟨_, rfl, hold_ops okT (rs := [.tmp 8]) rfl ?_⟩⟩
    simp (maxSteps := 1000000) (disch := first | omega | (simp only [sizeAlloc, sizeDrew, sizeSet, sizePut] <;> omega) | fail) only [GS, TT_eq, TTl, Nat.reduceAdd, Nat.reduceMul, Nat.reduceSub, Nat.reduceDiv, Nat.reduceMod, Nat.reducePow, Nat.reduceEqDiff, ↓reduceIte, reduceCtorEq, Int.reduceToNat, Int.reduceAdd, Int.reduceSub, Int.reduceMul]
    exact hR _ (hM0.trans hM30 (by simp))
  by_cases hb2 : (20000 : Int) < ((m.tag.length : Nat) : Int)
  · simp (maxSteps := 1000000) (disch := first | omega | (simp only [sizeAlloc, sizeDrew, sizeSet, sizePut] <;> omega) | fail) only [GS, TT_eq, TTl, Nat.reduceAdd, Nat.reduceMul, Nat.reduceSub, Nat.reduceDiv, Nat.reduceMod, Nat.reducePow, Nat.reduceEqDiff, ↓reduceIte, reduceCtorEq, Int.reduceToNat, Int.reduceAdd, Int.reduceSub, Int.reduceMul, cG, hb1, hb2]
    refine ⟨fok52, alive23_cps _ _ fun w30 hM30 => .inl ⟨_, rfl, hold_ops okT (rs := [.tmp 8]) rfl ?_⟩⟩
    simp (maxSteps := 1000000) (disch := first | omega | (simp only [sizeAlloc, sizeDrew, sizeSet, sizePut] <;> omega) | fail) only [GS, TT_eq, TTl, Nat.reduceAdd, Nat.reduceMul, Nat.reduceSub, Nat.reduceDiv, Nat.reduceMod, Nat.reducePow, Nat.reduceEqDiff, ↓reduceIte, reduceCtorEq, Int.reduceToNat, Int.reduceAdd, Int.reduceSub, Int.reduceMul]
    exact hR _ (hM0.trans hM30 (by simp))
  by_cases hb3 : (20000 : Int) < ((body.length : Nat) : Int)
  · simp (maxSteps := 1000000) (disch := first | omega | (simp only [sizeAlloc, sizeDrew, sizeSet, sizePut] <;> omega) | fail) only [GS, TT_eq, TTl, Nat.reduceAdd, Nat.reduceMul, Nat.reduceSub, Nat.reduceDiv, Nat.reduceMod, Nat.reducePow, Nat.reduceEqDiff, ↓reduceIte, reduceCtorEq, Int.reduceToNat, Int.reduceAdd, Int.reduceSub, Int.reduceMul, cG, hb1, hb2, hb3]
    refine ⟨fok52, alive23_cps _ _ fun w30 hM30 => .inl ⟨_, rfl, hold_ops okT (rs := [.tmp 8]) rfl ?_⟩⟩
    simp (maxSteps := 1000000) (disch := first | omega | (simp only [sizeAlloc, sizeDrew, sizeSet, sizePut] <;> omega) | fail) only [GS, TT_eq, TTl, Nat.reduceAdd, Nat.reduceMul, Nat.reduceSub, Nat.reduceDiv, Nat.reduceMod, Nat.reducePow, Nat.reduceEqDiff, ↓reduceIte, reduceCtorEq, Int.reduceToNat, Int.reduceAdd, Int.reduceSub, Int.reduceMul]
    exact hR _ (hM0.trans hM30 (by simp))
  obtain ⟨k, hmg⟩ := msgIn_mg hm hml
  have hin := ha.in hl
  have hpl := hin.len
  have hk0 := hmg.k0
  clear ha hm
  have hnl := res_len (p := newP m org body) (newE m k org body) (fun q h => new_mbs h) hmg.len
  have hbl := bal_len hpl
  have hOw := fun ns w h => rOwn_cps p ns w h
  have hCk := fun ns w h => pCheck_cps p ns w h
  have hB1 := fun ns w h => pBallot_u p ns w h
  have hB2 := fun ns w h => rBallot_u p ns w h
  have hMy := fun ns w h => rMayPt_cps p ns w h
  have hN1 := fun w h => pNew_u m k sa org body hb w h
  have hN2 := fun w h => rNew_u m k sa org body hb w h
  have hA1 := fun ns w h h2 => pSame_cps p ns m k sa w h h2
  have hA2 := fun ns w h h2 => rAsks_cps p ns m k sa w h h2
  have hS0 := fun ms ns w h1 h2 => rSame23_cps p ms ns w hpl h1 h2
  have hS1 := fun ms ns w h1 h2 => rSame23_cps (resQ (newE m k org body)) ms ns w hnl h1 h2
  have hSB := fun v1 v2 w h1 h2 => balSame_cps (balE p).1.1 (balE p).1.2.1 (balE p).1.2.2.2 (balE p).1.2.2.1 v1 v2 w hbl h1 h2
  clear hnl hbl
  generalize resQ (newE m k org body) = Q1 at *
  generalize resC (newE m k org body) = E1 at *
  generalize balE p = BB at *
  obtain ⟨X, XB⟩ := BB
  simp only at hB1 hB2 hSB
  generalize (mayPt p && prB m k && decide (m.tx = p.tx ∧ m.aud = p.aud ∧ m.mbs = p.mbs)) = SB at *
  generalize mayPt p = M at *
  unfold ptV ptC at hOw hCk hB1 hB2 hMy hN1 hN2 hA1 hA2 hS0 hS1
  unfold msgV msgC at hN1 hN2 hA1 hA2
  unfold balV at hB1 hB2 hSB
  have c_bP := fun o => cellOf (o := o) bP
  have c_bG := fun o => cellOf (o := o) bG
  simp (maxSteps := 1000000) (disch := first | omega | (simp only [sizeAlloc, sizeDrew, sizeSet, sizePut] <;> omega) | fail) only [GS, TT_eq, TTl, Nat.reduceAdd, Nat.reduceMul, Nat.reduceSub, Nat.reduceDiv, Nat.reduceMod, Nat.reducePow, Nat.reduceEqDiff, ↓reduceIte, reduceCtorEq, Int.reduceToNat, Int.reduceAdd, Int.reduceSub, Int.reduceMul, c_bP, c_bG, hb1, hb2, hb3]
  refine ⟨fok53, hOw _ _ hin _ fun cvO u1 oO hM_ => .inl ⟨_, rfl, hold_stop (s' := some 4) (hold_ops okT (rs := [.tmp 8]) rfl ?_)⟩⟩
  replace hM0 := hM0.trans hM_ (by simp)
  replace bP := hM_.get bP (by simp)
  replace bG := hM_.get bG (by simp)
  replace hin := hin.mod hM_
  replace hmg := hmg.mod hM_
  have oc := ownsRow_one oO
  simp (maxSteps := 1000000) (disch := first | omega | (simp only [sizeAlloc, sizeDrew, sizeSet, sizePut] <;> omega) | fail) only [GS, TT_eq, TTl, Nat.reduceAdd, Nat.reduceMul, Nat.reduceSub, Nat.reduceDiv, Nat.reduceMod, Nat.reducePow, Nat.reduceEqDiff, ↓reduceIte, reduceCtorEq, Int.reduceToNat, Int.reduceAdd, Int.reduceSub, Int.reduceMul, oc, cellsL_one oc]
  generalize hW_ : (((((((((((u1.alloc (.cells #[.int .i64 0, .int .i64 0, .int .i64 0, .int .i64 0, .slice none 0 0, .int .i64 0, .string ⟨#[]⟩, .int .u8 0, .string ⟨#[]⟩, .int .i64 0] 72)).setCell ⟨u1.heap.size, 0, none⟩ (.int .i64 p.tx.1)).setCell ⟨u1.heap.size, 1, none⟩ (.int .i64 p.tx.2.1)).setCell ⟨u1.heap.size, 2, none⟩ (.int .i64 p.tx.2.2)).setCell ⟨u1.heap.size, 3, none⟩ (.int .i64 p.aud)).setCell ⟨u1.heap.size, 4, none⟩ (cvO)).setCell ⟨u1.heap.size, 5, none⟩ (.int .i64 p.org)).setCell ⟨u1.heap.size, 6, none⟩ (.string ⟨p.body.toArray⟩)).setCell ⟨u1.heap.size, 7, none⟩ (.int .u8 p.st)).setCell ⟨u1.heap.size, 8, none⟩ (.string ⟨p.tag.toArray⟩)).setCell ⟨u1.heap.size, 9, none⟩ (.int .i64 p.sent)) = u2
  obtain ⟨bO, hM_⟩ : u2.heap[u1.heap.size]? = some (.cells #[.int .i64 p.tx.1, .int .i64 p.tx.2.1, .int .i64 p.tx.2.2, .int .i64 p.aud, cvO, .int .i64 p.org, .string ⟨p.body.toArray⟩, .int .u8 p.st, .string ⟨p.tag.toArray⟩, .int .i64 p.sent] 72 (0, 0)) ∧ Mod [] u1 u2 := by
    subst hW_
    exact ⟨st10 heapNew, modSet10 ((Mod.refl [] u1).alloc _) (.inr (Nat.le_refl _))⟩
  clear hW_
  replace hM0 := hM0.trans hM_ (by simp)
  replace bP := hM_.get bP (by simp)
  replace bG := hM_.get bG (by simp)
  replace hin := hin.mod hM_
  replace hmg := hmg.mod hM_
  replace oO := ownsRow_mod oO hM_ (by simp)
  generalize u1.heap.size = qO at *
  refine hold_stop (s' := none) ?_
  refine hold_code okT (rs := [.tmp 8]) rfl ?_
  clear oc
  have c_bO := fun o => cellOf (o := o) bO
  simp (maxSteps := 1000000) (disch := first | omega | (simp only [sizeAlloc, sizeDrew, sizeSet, sizePut] <;> omega) | fail) only [GS, TT_eq, TTl, Nat.reduceAdd, Nat.reduceMul, Nat.reduceSub, Nat.reduceDiv, Nat.reduceMod, Nat.reducePow, Nat.reduceEqDiff, ↓reduceIte, reduceCtorEq, Int.reduceToNat, Int.reduceAdd, Int.reduceSub, Int.reduceMul, c_bO]
  refine ⟨fok65, hCk _ _ (hin.new (Rd.own oO)) _ fun  u3 hM_ => .inl ⟨_, rfl, hold_ops okT (rs := [.tmp 8]) rfl ?_⟩⟩
  replace hM0 := hM0.trans hM_ (by simp)
  replace bP := hM_.get bP (by simp)
  replace bG := hM_.get bG (by simp)
  replace hin := hin.mod hM_
  replace hmg := hmg.mod hM_
  replace oO := ownsRow_mod oO hM_ (by simp)
  replace bO := hM_.get bO (by simp)
  have c_bG := fun o => cellOf (o := o) bG
  simp (maxSteps := 1000000) (disch := first | omega | (simp only [sizeAlloc, sizeDrew, sizeSet, sizePut] <;> omega) | fail) only [GS, TT_eq, TTl, Nat.reduceAdd, Nat.reduceMul, Nat.reduceSub, Nat.reduceDiv, Nat.reduceMod, Nat.reducePow, Nat.reduceEqDiff, ↓reduceIte, reduceCtorEq, Int.reduceToNat, Int.reduceAdd, Int.reduceSub, Int.reduceMul, c_bG]
  refine ⟨fok66, hN1 _ hmg _ fun cv1a u4 o1a hM_ => .inl ⟨_, rfl, hold_stop (s' := some 6) (hold_ops okT (rs := [.tmp 8]) rfl ?_)⟩⟩
  replace hM0 := hM0.trans hM_ (by simp)
  replace bP := hM_.get bP (by simp)
  replace bG := hM_.get bG (by simp)
  replace hin := hin.mod hM_
  replace hmg := hmg.mod hM_
  replace oO := ownsRow_mod oO hM_ (by simp)
  replace bO := hM_.get bO (by simp)
  have oc := ownsRow_one o1a
  simp (maxSteps := 1000000) (disch := first | omega | (simp only [sizeAlloc, sizeDrew, sizeSet, sizePut] <;> omega) | fail) only [GS, TT_eq, TTl, Nat.reduceAdd, Nat.reduceMul, Nat.reduceSub, Nat.reduceDiv, Nat.reduceMod, Nat.reducePow, Nat.reduceEqDiff, ↓reduceIte, reduceCtorEq, Int.reduceToNat, Int.reduceAdd, Int.reduceSub, Int.reduceMul, oc, cellsL_one oc]
  generalize hW_ : (((((((((((u4.alloc (.cells #[.int .i64 0, .int .i64 0, .int .i64 0, .int .i64 0, .slice none 0 0, .int .i64 0, .string ⟨#[]⟩, .int .u8 0, .string ⟨#[]⟩, .int .i64 0] 72)).setCell ⟨u4.heap.size, 0, none⟩ (.int .i64 Q1.tx.1)).setCell ⟨u4.heap.size, 1, none⟩ (.int .i64 Q1.tx.2.1)).setCell ⟨u4.heap.size, 2, none⟩ (.int .i64 Q1.tx.2.2)).setCell ⟨u4.heap.size, 3, none⟩ (.int .i64 Q1.aud)).setCell ⟨u4.heap.size, 4, none⟩ (cv1a)).setCell ⟨u4.heap.size, 5, none⟩ (.int .i64 Q1.org)).setCell ⟨u4.heap.size, 6, none⟩ (.string ⟨Q1.body.toArray⟩)).setCell ⟨u4.heap.size, 7, none⟩ (.int .u8 Q1.st)).setCell ⟨u4.heap.size, 8, none⟩ (.string ⟨Q1.tag.toArray⟩)).setCell ⟨u4.heap.size, 9, none⟩ (.int .i64 Q1.sent)) = u5
  obtain ⟨b1a, hM_⟩ : u5.heap[u4.heap.size]? = some (.cells #[.int .i64 Q1.tx.1, .int .i64 Q1.tx.2.1, .int .i64 Q1.tx.2.2, .int .i64 Q1.aud, cv1a, .int .i64 Q1.org, .string ⟨Q1.body.toArray⟩, .int .u8 Q1.st, .string ⟨Q1.tag.toArray⟩, .int .i64 Q1.sent] 72 (0, 0)) ∧ Mod [] u4 u5 := by
    subst hW_
    exact ⟨st10 heapNew, modSet10 ((Mod.refl [] u4).alloc _) (.inr (Nat.le_refl _))⟩
  clear hW_
  replace hM0 := hM0.trans hM_ (by simp)
  replace bP := hM_.get bP (by simp)
  replace bG := hM_.get bG (by simp)
  replace hin := hin.mod hM_
  replace hmg := hmg.mod hM_
  replace oO := ownsRow_mod oO hM_ (by simp)
  replace bO := hM_.get bO (by simp)
  replace o1a := ownsRow_mod o1a hM_ (by simp)
  generalize u4.heap.size = q1a at *
  refine hold_stop (s' := none) ?_
  refine hold_code okT (rs := [.tmp 8]) rfl ?_
  clear oc
  have c_bG := fun o => cellOf (o := o) bG
  simp (maxSteps := 1000000) (disch := first | omega | (simp only [sizeAlloc, sizeDrew, sizeSet, sizePut] <;> omega) | fail) only [GS, TT_eq, TTl, Nat.reduceAdd, Nat.reduceMul, Nat.reduceSub, Nat.reduceDiv, Nat.reduceMod, Nat.reducePow, Nat.reduceEqDiff, ↓reduceIte, reduceCtorEq, Int.reduceToNat, Int.reduceAdd, Int.reduceSub, Int.reduceMul, c_bG]
  refine ⟨fok67, hN2 _ hmg _ fun cv1b u6 o1b hM_ => .inl ⟨_, rfl, hold_stop (s' := some 7) (hold_ops okT (rs := [.tmp 8]) rfl ?_)⟩⟩
  replace hM0 := hM0.trans hM_ (by simp)
  replace bP := hM_.get bP (by simp)
  replace bG := hM_.get bG (by simp)
  replace hin := hin.mod hM_
  replace hmg := hmg.mod hM_
  replace oO := ownsRow_mod oO hM_ (by simp)
  replace bO := hM_.get bO (by simp)
  replace o1a := ownsRow_mod o1a hM_ (by simp)
  replace b1a := hM_.get b1a (by simp)
  have oc := ownsRow_one o1b
  simp (maxSteps := 1000000) (disch := first | omega | (simp only [sizeAlloc, sizeDrew, sizeSet, sizePut] <;> omega) | fail) only [GS, TT_eq, TTl, Nat.reduceAdd, Nat.reduceMul, Nat.reduceSub, Nat.reduceDiv, Nat.reduceMod, Nat.reducePow, Nat.reduceEqDiff, ↓reduceIte, reduceCtorEq, Int.reduceToNat, Int.reduceAdd, Int.reduceSub, Int.reduceMul, oc, cellsL_one oc]
  generalize hW_ : (((((((((((u6.alloc (.cells #[.int .i64 0, .int .i64 0, .int .i64 0, .int .i64 0, .slice none 0 0, .int .i64 0, .string ⟨#[]⟩, .int .u8 0, .string ⟨#[]⟩, .int .i64 0] 72)).setCell ⟨u6.heap.size, 0, none⟩ (.int .i64 Q1.tx.1)).setCell ⟨u6.heap.size, 1, none⟩ (.int .i64 Q1.tx.2.1)).setCell ⟨u6.heap.size, 2, none⟩ (.int .i64 Q1.tx.2.2)).setCell ⟨u6.heap.size, 3, none⟩ (.int .i64 Q1.aud)).setCell ⟨u6.heap.size, 4, none⟩ (cv1b)).setCell ⟨u6.heap.size, 5, none⟩ (.int .i64 Q1.org)).setCell ⟨u6.heap.size, 6, none⟩ (.string ⟨Q1.body.toArray⟩)).setCell ⟨u6.heap.size, 7, none⟩ (.int .u8 Q1.st)).setCell ⟨u6.heap.size, 8, none⟩ (.string ⟨Q1.tag.toArray⟩)).setCell ⟨u6.heap.size, 9, none⟩ (.int .i64 Q1.sent)) = u7
  obtain ⟨b1b, hM_⟩ : u7.heap[u6.heap.size]? = some (.cells #[.int .i64 Q1.tx.1, .int .i64 Q1.tx.2.1, .int .i64 Q1.tx.2.2, .int .i64 Q1.aud, cv1b, .int .i64 Q1.org, .string ⟨Q1.body.toArray⟩, .int .u8 Q1.st, .string ⟨Q1.tag.toArray⟩, .int .i64 Q1.sent] 72 (0, 0)) ∧ Mod [] u6 u7 := by
    subst hW_
    exact ⟨st10 heapNew, modSet10 ((Mod.refl [] u6).alloc _) (.inr (Nat.le_refl _))⟩
  clear hW_
  replace hM0 := hM0.trans hM_ (by simp)
  replace bP := hM_.get bP (by simp)
  replace bG := hM_.get bG (by simp)
  replace hin := hin.mod hM_
  replace hmg := hmg.mod hM_
  replace oO := ownsRow_mod oO hM_ (by simp)
  replace bO := hM_.get bO (by simp)
  replace o1a := ownsRow_mod o1a hM_ (by simp)
  replace b1a := hM_.get b1a (by simp)
  replace o1b := ownsRow_mod o1b hM_ (by simp)
  generalize u6.heap.size = q1b at *
  refine hold_stop (s' := none) ?_
  refine hold_code okT (rs := [.tmp 8]) rfl ?_
  clear oc
  have c_bO := fun o => cellOf (o := o) bO
  simp (maxSteps := 1000000) (disch := first | omega | (simp only [sizeAlloc, sizeDrew, sizeSet, sizePut] <;> omega) | fail) only [GS, TT_eq, TTl, Nat.reduceAdd, Nat.reduceMul, Nat.reduceSub, Nat.reduceDiv, Nat.reduceMod, Nat.reducePow, Nat.reduceEqDiff, ↓reduceIte, reduceCtorEq, Int.reduceToNat, Int.reduceAdd, Int.reduceSub, Int.reduceMul, c_bO]
  refine ⟨fok68, hB1 _ _ (hin.new (Rd.own oO)) _ fun cvXa u8 oXa hM_ => .inl ⟨_, rfl, hold_stop (s' := some 8) (hold_ops okT (rs := [.tmp 8]) rfl ?_)⟩⟩
  replace hM0 := hM0.trans hM_ (by simp)
  replace bP := hM_.get bP (by simp)
  replace bG := hM_.get bG (by simp)
  replace hin := hin.mod hM_
  replace hmg := hmg.mod hM_
  replace oO := ownsRow_mod oO hM_ (by simp)
  replace bO := hM_.get bO (by simp)
  replace o1a := ownsRow_mod o1a hM_ (by simp)
  replace b1a := hM_.get b1a (by simp)
  replace o1b := ownsRow_mod o1b hM_ (by simp)
  replace b1b := hM_.get b1b (by simp)
  have oc := ownsRow_one oXa
  simp (maxSteps := 1000000) (disch := first | omega | (simp only [sizeAlloc, sizeDrew, sizeSet, sizePut] <;> omega) | fail) only [GS, TT_eq, TTl, Nat.reduceAdd, Nat.reduceMul, Nat.reduceSub, Nat.reduceDiv, Nat.reduceMod, Nat.reducePow, Nat.reduceEqDiff, ↓reduceIte, reduceCtorEq, Int.reduceToNat, Int.reduceAdd, Int.reduceSub, Int.reduceMul, oc, cellsL_one oc]
  generalize hW_ : (((((((u8.alloc (.cells #[.int .i64 0, .int .i64 0, .int .i64 0, .int .i64 0, .slice none 0 0, .int .i64 0] 56)).setCell ⟨u8.heap.size, 0, none⟩ (.int .i64 X.1.1)).setCell ⟨u8.heap.size, 1, none⟩ (.int .i64 X.1.2.1)).setCell ⟨u8.heap.size, 2, none⟩ (.int .i64 X.1.2.2)).setCell ⟨u8.heap.size, 3, none⟩ (.int .i64 X.2.1)).setCell ⟨u8.heap.size, 4, none⟩ (cvXa)).setCell ⟨u8.heap.size, 5, none⟩ (.int .i64 X.2.2.2)) = u9
  obtain ⟨bXa, hM_⟩ : u9.heap[u8.heap.size]? = some (.cells #[.int .i64 X.1.1, .int .i64 X.1.2.1, .int .i64 X.1.2.2, .int .i64 X.2.1, cvXa, .int .i64 X.2.2.2] 56 (0, 0)) ∧ Mod [] u8 u9 := by
    subst hW_
    exact ⟨st6z heapNew, modSet6z ((Mod.refl [] u8).alloc _) (.inr (Nat.le_refl _))⟩
  clear hW_
  replace hM0 := hM0.trans hM_ (by simp)
  replace bP := hM_.get bP (by simp)
  replace bG := hM_.get bG (by simp)
  replace hin := hin.mod hM_
  replace hmg := hmg.mod hM_
  replace oO := ownsRow_mod oO hM_ (by simp)
  replace bO := hM_.get bO (by simp)
  replace o1a := ownsRow_mod o1a hM_ (by simp)
  replace b1a := hM_.get b1a (by simp)
  replace o1b := ownsRow_mod o1b hM_ (by simp)
  replace b1b := hM_.get b1b (by simp)
  replace oXa := ownsRow_mod oXa hM_ (by simp)
  generalize u8.heap.size = qXa at *
  refine hold_stop (s' := none) ?_
  refine hold_code okT (rs := [.tmp 8]) rfl ?_
  clear oc
  have c_bP := fun o => cellOf (o := o) bP
  simp (maxSteps := 1000000) (disch := first | omega | (simp only [sizeAlloc, sizeDrew, sizeSet, sizePut] <;> omega) | fail) only [GS, TT_eq, TTl, Nat.reduceAdd, Nat.reduceMul, Nat.reduceSub, Nat.reduceDiv, Nat.reduceMod, Nat.reducePow, Nat.reduceEqDiff, ↓reduceIte, reduceCtorEq, Int.reduceToNat, Int.reduceAdd, Int.reduceSub, Int.reduceMul, c_bP]
  refine ⟨fok69, hB2 _ _ hin _ fun cvXb u10 oXb hM_ => .inl ⟨_, rfl, hold_stop (s' := some 9) (hold_ops okT (rs := [.tmp 8]) rfl ?_)⟩⟩
  replace hM0 := hM0.trans hM_ (by simp)
  replace bP := hM_.get bP (by simp)
  replace bG := hM_.get bG (by simp)
  replace hin := hin.mod hM_
  replace hmg := hmg.mod hM_
  replace oO := ownsRow_mod oO hM_ (by simp)
  replace bO := hM_.get bO (by simp)
  replace o1a := ownsRow_mod o1a hM_ (by simp)
  replace b1a := hM_.get b1a (by simp)
  replace o1b := ownsRow_mod o1b hM_ (by simp)
  replace b1b := hM_.get b1b (by simp)
  replace oXa := ownsRow_mod oXa hM_ (by simp)
  replace bXa := hM_.get bXa (by simp)
  have oc := ownsRow_one oXb
  simp (maxSteps := 1000000) (disch := first | omega | (simp only [sizeAlloc, sizeDrew, sizeSet, sizePut] <;> omega) | fail) only [GS, TT_eq, TTl, Nat.reduceAdd, Nat.reduceMul, Nat.reduceSub, Nat.reduceDiv, Nat.reduceMod, Nat.reducePow, Nat.reduceEqDiff, ↓reduceIte, reduceCtorEq, Int.reduceToNat, Int.reduceAdd, Int.reduceSub, Int.reduceMul, oc, cellsL_one oc]
  generalize hW_ : (((((((u10.alloc (.cells #[.int .i64 0, .int .i64 0, .int .i64 0, .int .i64 0, .slice none 0 0, .int .i64 0] 56)).setCell ⟨u10.heap.size, 0, none⟩ (.int .i64 X.1.1)).setCell ⟨u10.heap.size, 1, none⟩ (.int .i64 X.1.2.1)).setCell ⟨u10.heap.size, 2, none⟩ (.int .i64 X.1.2.2)).setCell ⟨u10.heap.size, 3, none⟩ (.int .i64 X.2.1)).setCell ⟨u10.heap.size, 4, none⟩ (cvXb)).setCell ⟨u10.heap.size, 5, none⟩ (.int .i64 X.2.2.2)) = u11
  obtain ⟨bXb, hM_⟩ : u11.heap[u10.heap.size]? = some (.cells #[.int .i64 X.1.1, .int .i64 X.1.2.1, .int .i64 X.1.2.2, .int .i64 X.2.1, cvXb, .int .i64 X.2.2.2] 56 (0, 0)) ∧ Mod [] u10 u11 := by
    subst hW_
    exact ⟨st6z heapNew, modSet6z ((Mod.refl [] u10).alloc _) (.inr (Nat.le_refl _))⟩
  clear hW_
  replace hM0 := hM0.trans hM_ (by simp)
  replace bP := hM_.get bP (by simp)
  replace bG := hM_.get bG (by simp)
  replace hin := hin.mod hM_
  replace hmg := hmg.mod hM_
  replace oO := ownsRow_mod oO hM_ (by simp)
  replace bO := hM_.get bO (by simp)
  replace o1a := ownsRow_mod o1a hM_ (by simp)
  replace b1a := hM_.get b1a (by simp)
  replace o1b := ownsRow_mod o1b hM_ (by simp)
  replace b1b := hM_.get b1b (by simp)
  replace oXa := ownsRow_mod oXa hM_ (by simp)
  replace bXa := hM_.get bXa (by simp)
  replace oXb := ownsRow_mod oXb hM_ (by simp)
  generalize u10.heap.size = qXb at *
  refine hold_stop (s' := none) ?_
  refine hold_code okT (rs := [.tmp 8]) rfl ?_
  clear oc
  cases M
  all_goals
    first | simp only [if_true] | simp only [Bool.false_eq_true, if_false]
    simp (maxSteps := 1000000) (disch := first | omega | (simp only [sizeAlloc, sizeDrew, sizeSet, sizePut] <;> omega) | fail) only [GS, TT_eq, TTl, Nat.reduceAdd, Nat.reduceMul, Nat.reduceSub, Nat.reduceDiv, Nat.reduceMod, Nat.reducePow, Nat.reduceEqDiff, ↓reduceIte, reduceCtorEq, Int.reduceToNat, Int.reduceAdd, Int.reduceSub, Int.reduceMul]
    refine hold_draw okT (rs := [.tmp 8]) rfl [0, 1, 0, 4, 15, 31, 63, 127, 255, 511, 1023, 2047, 4095, 8191, 16383, 16383, 65535, 131071, 262143, 524287, 524287, 2097151, 4194303, 8388607, 16777215, 16777215, 67108863, 134217727, 268435455, 536870911, 536870911, 2147483647, 4294967295, 8589934591, 17179869183, 17179869183, 68719476735, 17179869183, 17179869183, 549755813887, 1099511627775, 2199023255551, 4398046511103, 8796093022207, 8796093022207, 35184372088831, 70368744177663, 140737488355327, 281474976710655, 562949953421311, 1125899906842623] [0, 1, 2, 3, 4, 5, 6, 7, 8, 9, 10, 11, 12, 13, 14, 15, 16, 17, 18, 19, 20, 21, 22, 23, 24, 25, 26, 27, 28, 29, 30, 31, 32, 33, 34, 35, 37, 38, 36, 39, 40, 41, 42, 43, 44, 45, 46, 47, 48, 49, 50] (by kernel_rfl) (by kernel_rfl) ?_
    have hM_ := (Mod.refl [] u11).drewN 1
    generalize u11.drewN 1 = u12 at *
    replace hM0 := hM0.trans hM_ (by simp)
    replace bP := hM_.get bP (by simp)
    replace bG := hM_.get bG (by simp)
    replace hin := hin.mod hM_
    replace hmg := hmg.mod hM_
    replace oO := ownsRow_mod oO hM_ (by simp)
    replace bO := hM_.get bO (by simp)
    replace o1a := ownsRow_mod o1a hM_ (by simp)
    replace b1a := hM_.get b1a (by simp)
    replace o1b := ownsRow_mod o1b hM_ (by simp)
    replace b1b := hM_.get b1b (by simp)
    replace oXa := ownsRow_mod oXa hM_ (by simp)
    replace bXa := hM_.get bXa (by simp)
    replace oXb := ownsRow_mod oXb hM_ (by simp)
    replace bXb := hM_.get bXb (by simp)
    have c_bP := fun o => cellOf (o := o) bP
    have c_bO := fun o => cellOf (o := o) bO
    have c_b1a := fun o => cellOf (o := o) b1a
    have c_b1b := fun o => cellOf (o := o) b1b
    have c_bG := fun o => cellOf (o := o) bG
    have c_bXa := fun o => cellOf (o := o) bXa
    have c_bXb := fun o => cellOf (o := o) bXb
    simp (maxSteps := 1000000) (disch := first | omega | (simp only [sizeAlloc, sizeDrew, sizeSet, sizePut] <;> omega) | fail) only [GS, TT_eq, TTl, Nat.reduceAdd, Nat.reduceMul, Nat.reduceSub, Nat.reduceDiv, Nat.reduceMod, Nat.reducePow, Nat.reduceEqDiff, ↓reduceIte, reduceCtorEq, Int.reduceToNat, Int.reduceAdd, Int.reduceSub, Int.reduceMul, c_bP, c_bO, c_b1a, c_b1b, c_bG, c_bXa, c_bXb, eq_self, pb2_self]
    refine ⟨fok70, hMy _ _ hin _ fun  u13 hM_ => .inl ⟨_, rfl, ?_⟩⟩
    first | refine hold_dops okT (rs := [.tmp 8]) rfl ?_ | refine ⟨(by repeat' (first | exact agg10p bP hM_ | exact agg10p bO hM_ | exact agg10p b1a hM_ | exact agg10p b1b hM_ | exact agg9p bG hM_ | exact agg6p bXa hM_ | exact agg6p bXb hM_ | apply And.intro)), hold_dops okT (rs := [.tmp 8]) rfl ?_⟩
    replace hM0 := hM0.trans hM_ (by simp)
    replace bP := hM_.get bP (by simp)
    replace bG := hM_.get bG (by simp)
    replace hin := hin.mod hM_
    replace hmg := hmg.mod hM_
    replace oO := ownsRow_mod oO hM_ (by simp)
    replace bO := hM_.get bO (by simp)
    replace o1a := ownsRow_mod o1a hM_ (by simp)
    replace b1a := hM_.get b1a (by simp)
    replace o1b := ownsRow_mod o1b hM_ (by simp)
    replace b1b := hM_.get b1b (by simp)
    replace oXa := ownsRow_mod oXa hM_ (by simp)
    replace bXa := hM_.get bXa (by simp)
    replace oXb := ownsRow_mod oXb hM_ (by simp)
    replace bXb := hM_.get bXb (by simp)
    clear c_bP c_bO c_b1a c_b1b c_bG c_bXa c_bXb
    have c_bP := fun o => cellOf (o := o) bP
    have c_bO := fun o => cellOf (o := o) bO
    have c_b1a := fun o => cellOf (o := o) b1a
    have c_b1b := fun o => cellOf (o := o) b1b
    have c_bG := fun o => cellOf (o := o) bG
    have c_bXa := fun o => cellOf (o := o) bXa
    have c_bXb := fun o => cellOf (o := o) bXb
    simp (maxSteps := 1000000) (disch := first | omega | (simp only [sizeAlloc, sizeDrew, sizeSet, sizePut] <;> omega) | fail) only [GS, TT_eq, TTl, Nat.reduceAdd, Nat.reduceMul, Nat.reduceSub, Nat.reduceDiv, Nat.reduceMod, Nat.reducePow, Nat.reduceEqDiff, ↓reduceIte, reduceCtorEq, Int.reduceToNat, Int.reduceAdd, Int.reduceSub, Int.reduceMul, c_bP, c_bO, c_b1a, c_b1b, c_bG, c_bXa, c_bXb, eq_self, pb2_self]
    refine ⟨fok62, hS1 _ _ _ (Rd.own o1a) (Rd.own o1b) _ fun  u14 hM_ => .inl ⟨_, rfl, ?_⟩⟩
    first | refine hold_dops okT (rs := [.tmp 8]) rfl ?_ | refine ⟨(by repeat' (first | exact agg10p bP hM_ | exact agg10p bO hM_ | exact agg10p b1a hM_ | exact agg10p b1b hM_ | exact agg9p bG hM_ | exact agg6p bXa hM_ | exact agg6p bXb hM_ | apply And.intro)), hold_dops okT (rs := [.tmp 8]) rfl ?_⟩
    replace hM0 := hM0.trans hM_ (by simp)
    replace bP := hM_.get bP (by simp)
    replace bG := hM_.get bG (by simp)
    replace hin := hin.mod hM_
    replace hmg := hmg.mod hM_
    replace oO := ownsRow_mod oO hM_ (by simp)
    replace bO := hM_.get bO (by simp)
    replace o1a := ownsRow_mod o1a hM_ (by simp)
    replace b1a := hM_.get b1a (by simp)
    replace o1b := ownsRow_mod o1b hM_ (by simp)
    replace b1b := hM_.get b1b (by simp)
    replace oXa := ownsRow_mod oXa hM_ (by simp)
    replace bXa := hM_.get bXa (by simp)
    replace oXb := ownsRow_mod oXb hM_ (by simp)
    replace bXb := hM_.get bXb (by simp)
    clear c_bP c_bO c_b1a c_b1b c_bG c_bXa c_bXb
    have c_bP := fun o => cellOf (o := o) bP
    have c_bO := fun o => cellOf (o := o) bO
    have c_b1a := fun o => cellOf (o := o) b1a
    have c_b1b := fun o => cellOf (o := o) b1b
    have c_bG := fun o => cellOf (o := o) bG
    have c_bXa := fun o => cellOf (o := o) bXa
    have c_bXb := fun o => cellOf (o := o) bXb
    simp (maxSteps := 1000000) (disch := first | omega | (simp only [sizeAlloc, sizeDrew, sizeSet, sizePut] <;> omega) | fail) only [GS, TT_eq, TTl, Nat.reduceAdd, Nat.reduceMul, Nat.reduceSub, Nat.reduceDiv, Nat.reduceMod, Nat.reducePow, Nat.reduceEqDiff, ↓reduceIte, reduceCtorEq, Int.reduceToNat, Int.reduceAdd, Int.reduceSub, Int.reduceMul, c_bP, c_bO, c_b1a, c_b1b, c_bG, c_bXa, c_bXb, eq_self, pb2_self]
    refine ⟨fok36, hSB _ _ _ (Rd.own oXa) (Rd.own oXb) _ fun  u15 hM_ => .inl ⟨_, rfl, ?_⟩⟩
    first | refine hold_dops okT (rs := [.tmp 8]) rfl ?_ | refine ⟨(by repeat' (first | exact agg10p bP hM_ | exact agg10p bO hM_ | exact agg10p b1a hM_ | exact agg10p b1b hM_ | exact agg9p bG hM_ | exact agg6p bXa hM_ | exact agg6p bXb hM_ | apply And.intro)), hold_dops okT (rs := [.tmp 8]) rfl ?_⟩
    replace hM0 := hM0.trans hM_ (by simp)
    replace bP := hM_.get bP (by simp)
    replace bG := hM_.get bG (by simp)
    replace hin := hin.mod hM_
    replace hmg := hmg.mod hM_
    replace oO := ownsRow_mod oO hM_ (by simp)
    replace bO := hM_.get bO (by simp)
    replace o1a := ownsRow_mod o1a hM_ (by simp)
    replace b1a := hM_.get b1a (by simp)
    replace o1b := ownsRow_mod o1b hM_ (by simp)
    replace b1b := hM_.get b1b (by simp)
    replace oXa := ownsRow_mod oXa hM_ (by simp)
    replace bXa := hM_.get bXa (by simp)
    replace oXb := ownsRow_mod oXb hM_ (by simp)
    replace bXb := hM_.get bXb (by simp)
    clear c_bP c_bO c_b1a c_b1b c_bG c_bXa c_bXb
    have c_bP := fun o => cellOf (o := o) bP
    have c_bO := fun o => cellOf (o := o) bO
    have c_b1a := fun o => cellOf (o := o) b1a
    have c_b1b := fun o => cellOf (o := o) b1b
    have c_bG := fun o => cellOf (o := o) bG
    have c_bXa := fun o => cellOf (o := o) bXa
    have c_bXb := fun o => cellOf (o := o) bXb
    simp (maxSteps := 1000000) (disch := first | omega | (simp only [sizeAlloc, sizeDrew, sizeSet, sizePut] <;> omega) | fail) only [GS, TT_eq, TTl, Nat.reduceAdd, Nat.reduceMul, Nat.reduceSub, Nat.reduceDiv, Nat.reduceMod, Nat.reducePow, Nat.reduceEqDiff, ↓reduceIte, reduceCtorEq, Int.reduceToNat, Int.reduceAdd, Int.reduceSub, Int.reduceMul, c_bP, c_bO, c_b1a, c_b1b, c_bG, c_bXa, c_bXb, eq_self, pb2_self]
    refine ⟨fok71, hA1 _ _ (hin.new (Rd.own oO)) hmg _ fun  u16 hM_ => .inl ⟨_, rfl, ?_⟩⟩
    first | refine hold_dops okT (rs := [.tmp 8]) rfl ?_ | refine ⟨(by repeat' (first | exact agg10p bP hM_ | exact agg10p bO hM_ | exact agg10p b1a hM_ | exact agg10p b1b hM_ | exact agg9p bG hM_ | exact agg6p bXa hM_ | exact agg6p bXb hM_ | apply And.intro)), hold_dops okT (rs := [.tmp 8]) rfl ?_⟩
    replace hM0 := hM0.trans hM_ (by simp)
    replace bP := hM_.get bP (by simp)
    replace bG := hM_.get bG (by simp)
    replace hin := hin.mod hM_
    replace hmg := hmg.mod hM_
    replace oO := ownsRow_mod oO hM_ (by simp)
    replace bO := hM_.get bO (by simp)
    replace o1a := ownsRow_mod o1a hM_ (by simp)
    replace b1a := hM_.get b1a (by simp)
    replace o1b := ownsRow_mod o1b hM_ (by simp)
    replace b1b := hM_.get b1b (by simp)
    replace oXa := ownsRow_mod oXa hM_ (by simp)
    replace bXa := hM_.get bXa (by simp)
    replace oXb := ownsRow_mod oXb hM_ (by simp)
    replace bXb := hM_.get bXb (by simp)
    clear c_bP c_bO c_b1a c_b1b c_bG c_bXa c_bXb
    have c_bP := fun o => cellOf (o := o) bP
    have c_bO := fun o => cellOf (o := o) bO
    have c_b1a := fun o => cellOf (o := o) b1a
    have c_b1b := fun o => cellOf (o := o) b1b
    have c_bG := fun o => cellOf (o := o) bG
    have c_bXa := fun o => cellOf (o := o) bXa
    have c_bXb := fun o => cellOf (o := o) bXb
    simp (maxSteps := 1000000) (disch := first | omega | (simp only [sizeAlloc, sizeDrew, sizeSet, sizePut] <;> omega) | fail) only [GS, TT_eq, TTl, Nat.reduceAdd, Nat.reduceMul, Nat.reduceSub, Nat.reduceDiv, Nat.reduceMod, Nat.reducePow, Nat.reduceEqDiff, ↓reduceIte, reduceCtorEq, Int.reduceToNat, Int.reduceAdd, Int.reduceSub, Int.reduceMul, c_bP, c_bO, c_b1a, c_b1b, c_bG, c_bXa, c_bXb, eq_self, pb2_self]
    refine ⟨fok72, hA2 _ _ hin hmg _ fun  u17 hM_ => .inl ⟨_, rfl, ?_⟩⟩
    first | refine hold_dops okT (rs := [.tmp 8]) rfl ?_ | refine ⟨(by repeat' (first | exact agg10p bP hM_ | exact agg10p bO hM_ | exact agg10p b1a hM_ | exact agg10p b1b hM_ | exact agg9p bG hM_ | exact agg6p bXa hM_ | exact agg6p bXb hM_ | apply And.intro)), hold_dops okT (rs := [.tmp 8]) rfl ?_⟩
    replace hM0 := hM0.trans hM_ (by simp)
    replace bP := hM_.get bP (by simp)
    replace bG := hM_.get bG (by simp)
    replace hin := hin.mod hM_
    replace hmg := hmg.mod hM_
    replace oO := ownsRow_mod oO hM_ (by simp)
    replace bO := hM_.get bO (by simp)
    replace o1a := ownsRow_mod o1a hM_ (by simp)
    replace b1a := hM_.get b1a (by simp)
    replace o1b := ownsRow_mod o1b hM_ (by simp)
    replace b1b := hM_.get b1b (by simp)
    replace oXa := ownsRow_mod oXa hM_ (by simp)
    replace bXa := hM_.get bXa (by simp)
    replace oXb := ownsRow_mod oXb hM_ (by simp)
    replace bXb := hM_.get bXb (by simp)
    clear c_bP c_bO c_b1a c_b1b c_bG c_bXa c_bXb
    have c_bP := fun o => cellOf (o := o) bP
    have c_bO := fun o => cellOf (o := o) bO
    have c_b1a := fun o => cellOf (o := o) b1a
    have c_b1b := fun o => cellOf (o := o) b1b
    have c_bG := fun o => cellOf (o := o) bG
    have c_bXa := fun o => cellOf (o := o) bXa
    have c_bXb := fun o => cellOf (o := o) bXb
    simp (maxSteps := 1000000) (disch := first | omega | (simp only [sizeAlloc, sizeDrew, sizeSet, sizePut] <;> omega) | fail) only [GS, TT_eq, TTl, Nat.reduceAdd, Nat.reduceMul, Nat.reduceSub, Nat.reduceDiv, Nat.reduceMod, Nat.reducePow, Nat.reduceEqDiff, ↓reduceIte, reduceCtorEq, Int.reduceToNat, Int.reduceAdd, Int.reduceSub, Int.reduceMul, c_bP, c_bO, c_b1a, c_b1b, c_bG, c_bXa, c_bXb, eq_self, pb2_self]
    refine ⟨fok62, hS0 _ _ _ (Rd.own oO) hin.rd _ fun  u18 hM_ => .inl ⟨_, rfl, ?_⟩⟩
    first | refine hold_dops okT (rs := [.tmp 8]) rfl ?_ | refine ⟨(by repeat' (first | exact agg10p bP hM_ | exact agg10p bO hM_ | exact agg10p b1a hM_ | exact agg10p b1b hM_ | exact agg9p bG hM_ | exact agg6p bXa hM_ | exact agg6p bXb hM_ | apply And.intro)), hold_dops okT (rs := [.tmp 8]) rfl ?_⟩
    replace hM0 := hM0.trans hM_ (by simp)
    replace bP := hM_.get bP (by simp)
    replace bG := hM_.get bG (by simp)
    replace hin := hin.mod hM_
    replace hmg := hmg.mod hM_
    replace oO := ownsRow_mod oO hM_ (by simp)
    replace bO := hM_.get bO (by simp)
    replace o1a := ownsRow_mod o1a hM_ (by simp)
    replace b1a := hM_.get b1a (by simp)
    replace o1b := ownsRow_mod o1b hM_ (by simp)
    replace b1b := hM_.get b1b (by simp)
    replace oXa := ownsRow_mod oXa hM_ (by simp)
    replace bXa := hM_.get bXa (by simp)
    replace oXb := ownsRow_mod oXb hM_ (by simp)
    replace bXb := hM_.get bXb (by simp)
    clear c_bP c_bO c_b1a c_b1b c_bG c_bXa c_bXb
    have c_bP := fun o => cellOf (o := o) bP
    have c_bO := fun o => cellOf (o := o) bO
    have c_b1a := fun o => cellOf (o := o) b1a
    have c_b1b := fun o => cellOf (o := o) b1b
    have c_bG := fun o => cellOf (o := o) bG
    have c_bXa := fun o => cellOf (o := o) bXa
    have c_bXb := fun o => cellOf (o := o) bXb
    simp (maxSteps := 1000000) (disch := first | omega | (simp only [sizeAlloc, sizeDrew, sizeSet, sizePut] <;> omega) | fail) only [GS, TT_eq, TTl, Nat.reduceAdd, Nat.reduceMul, Nat.reduceSub, Nat.reduceDiv, Nat.reduceMod, Nat.reducePow, Nat.reduceEqDiff, ↓reduceIte, reduceCtorEq, Int.reduceToNat, Int.reduceAdd, Int.reduceSub, Int.reduceMul, c_bP, c_bO, c_b1a, c_b1b, c_bG, c_bXa, c_bXb, eq_self, pb2_self]
    refine ⟨fok52, alive23_cps _ _ fun  u19 hM_ => .inl ⟨_, rfl, ?_⟩⟩
    first | refine hold_dops okT (rs := [.tmp 8]) rfl ?_ | refine ⟨(by repeat' (first | exact agg10p bP hM_ | exact agg10p bO hM_ | exact agg10p b1a hM_ | exact agg10p b1b hM_ | exact agg9p bG hM_ | exact agg6p bXa hM_ | exact agg6p bXb hM_ | apply And.intro)), hold_dops okT (rs := [.tmp 8]) rfl ?_⟩
    replace hM0 := hM0.trans hM_ (by simp)
    replace bP := hM_.get bP (by simp)
    replace bG := hM_.get bG (by simp)
    replace hin := hin.mod hM_
    replace hmg := hmg.mod hM_
    replace oO := ownsRow_mod oO hM_ (by simp)
    replace bO := hM_.get bO (by simp)
    replace o1a := ownsRow_mod o1a hM_ (by simp)
    replace b1a := hM_.get b1a (by simp)
    replace o1b := ownsRow_mod o1b hM_ (by simp)
    replace b1b := hM_.get b1b (by simp)
    replace oXa := ownsRow_mod oXa hM_ (by simp)
    replace bXa := hM_.get bXa (by simp)
    replace oXb := ownsRow_mod oXb hM_ (by simp)
    replace bXb := hM_.get bXb (by simp)
    clear c_bP c_bO c_b1a c_b1b c_bG c_bXa c_bXb
    simp (maxSteps := 1000000) (disch := first | omega | (simp only [sizeAlloc, sizeDrew, sizeSet, sizePut] <;> omega) | fail) only [GS, TT_eq, TTl, Nat.reduceAdd, Nat.reduceMul, Nat.reduceSub, Nat.reduceDiv, Nat.reduceMod, Nat.reducePow, Nat.reduceEqDiff, ↓reduceIte, reduceCtorEq, Int.reduceToNat, Int.reduceAdd, Int.reduceSub, Int.reduceMul, eq_self, pb2_self]
    exact hR _ hM0
end Go.Proofs.YtpcilobbohokcaaGreat
